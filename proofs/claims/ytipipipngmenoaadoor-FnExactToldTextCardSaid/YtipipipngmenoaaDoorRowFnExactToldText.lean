/- The row of FnExactToldText: for every input the call returns true, and each argument reads as it read before. No condition. -/
import Derived.Test.YtipipipngmenoaaDoorCards
import Derived.Test.YtipipipngmenoaaDoorTie
import Derived.SevenTiedAt
import Derived.MakeChecks
import Derived.Deep.DeepLaidRun
import Derived.LaidHandle
import Derived.LaidSub
import Derived.Handed
import Derived.ChangeSame
import Derived.ChangeVars
import Derived.JoinedOf
import Derived.LaidLaws
import Derived.Test.YtipipipngmenoaaDoorRows
import Derived.Test.YtipipipngmenoaaDoorStmtFnExactToldText
import Derived.Test.YtipipipngmenoaaDoorPureFnExactToldText
import Derived.Test.YtipipipngmenoaaDoorOpen
import Derived.WalkKit
import Derived.ProofKit
import Derived.OpenShut
import Derived.ShutString
import Derived.ChangeOld
import Derived.Below
import Derived.SizedLaws
namespace Go.Proofs.YtipipipngmenoaaDoor.fnExactToldText
open Go.ChangeShapes Go.WideShapes Go.ChangeAt Go.RowKit Go.Proofs.YtipipipngmenoaaDoor.Opening Go.Proofs.YtipipipngmenoaaDoorW.PrintWords Go.Proofs.YtipipipngmenoaaDoor.Vm Go.Proofs.YtipipipngmenoaaDoor.Run Go.Proofs.YtipipipngmenoaaDoor.StmtFnExactToldText
set_option linter.unusedVariables false
set_option linter.unusedSimpArgs false
theorem own : ownKnob Tryd.prog.godebug = none := by kernel_rfl
theorem laidOut : laidOutB Tryd.prog = true := by kernel_rfl
section
variable {H : Type} {enc : TypeId × Value → H} {W : World}
set_option maxRecDepth 100000 in
theorem oE3 : Opens enc Tryd.prog W 3 (Kd.int .i64) wfE3 := opens_int Tryd.underlying3
set_option maxRecDepth 100000 in
theorem oE89 : Opens enc Tryd.prog W 89 (Kd.pair (Kd.int .i64) (Kd.pair (Kd.int .i64) (Kd.pair (Kd.int .i64) (Kd.pair (Kd.int .i64) (Kd.pair (Kd.int .i64) (Kd.pair (Kd.int .i64) (Kd.pair (Kd.int .i64) (Kd.pair (Kd.int .i64) (Kd.pair (Kd.slice 3 (Kd.int .i64)) Kd.bool))))))))) wfE89 := opens_struct0 (total := 10) Tryd.underlying89 (by kernel_rfl) (opensF_cons (o := 0) (o' := 1) (total := 10) rfl (by kernel_rfl) (opens_int Tryd.underlying3) (opensF_cons (o := 1) (o' := 2) (total := 10) rfl (by kernel_rfl) (opens_int Tryd.underlying3) (opensF_last (o := 2) (total := 10) rfl (by kernel_rfl) (opens_struct0 (total := 8) Tryd.underlying32 (by kernel_rfl) (opensF_cons (o := 0) (o' := 1) (total := 8) rfl (by kernel_rfl) (opens_int Tryd.underlying3) (opensF_cons (o := 1) (o' := 2) (total := 8) rfl (by kernel_rfl) (opens_int Tryd.underlying3) (opensF_cons (o := 2) (o' := 3) (total := 8) rfl (by kernel_rfl) (opens_int Tryd.underlying3) (opensF_cons (o := 3) (o' := 4) (total := 8) rfl (by kernel_rfl) (opens_int Tryd.underlying3) (opensF_cons (o := 4) (o' := 5) (total := 8) rfl (by kernel_rfl) (opens_int Tryd.underlying3) (opensF_cons (o := 5) (o' := 6) (total := 8) rfl (by kernel_rfl) (opens_int Tryd.underlying3) (opensF_cons (o := 6) (o' := 7) (total := 8) rfl (by kernel_rfl) (opens_slice Tryd.underlying22 (by kernel_rfl) oE3) (opensF_last (o := 7) (total := 8) rfl (by kernel_rfl) (opens_bool Tryd.underlying4)))))))))))))
set_option maxRecDepth 100000 in
theorem oE97 : Opens enc Tryd.prog W 97 (Kd.pair (Kd.int .i64) (Kd.pair (Kd.int .i64) (Kd.int .i64))) wfE97 := opens_struct0 (total := 3) Tryd.underlying97 (by kernel_rfl) (opensF_cons (o := 0) (o' := 1) (total := 3) rfl (by kernel_rfl) (opens_int Tryd.underlying3) (opensF_cons (o := 1) (o' := 2) (total := 3) rfl (by kernel_rfl) (opens_int Tryd.underlying3) (opensF_last (o := 2) (total := 3) rfl (by kernel_rfl) (opens_int Tryd.underlying3))))
end
noncomputable def laidWorld (os : Os) : World :=
  let w0 := World.holding Tryd.prog os ⟨#[], #[], []⟩
  { w0 with heap := (((w0.heap.modify 4 fun
      | .cells _ t frozen => .cells #[.int .u8 0, .int .u8 1, .int .u8 28, .int .u8 2, .int .u8 29, .int .u8 14, .int .u8 24, .int .u8 3, .int .u8 30, .int .u8 22, .int .u8 20, .int .u8 15, .int .u8 25, .int .u8 17, .int .u8 4, .int .u8 8, .int .u8 31, .int .u8 27, .int .u8 13, .int .u8 23, .int .u8 21, .int .u8 19, .int .u8 16, .int .u8 7, .int .u8 26, .int .u8 12, .int .u8 18, .int .u8 6, .int .u8 11, .int .u8 5, .int .u8 10, .int .u8 9] t frozen
      | o => o).modify 5 fun
      | .cells _ t frozen => .cells #[.int .u8 0, .int .u8 1, .int .u8 56, .int .u8 2, .int .u8 57, .int .u8 49, .int .u8 28, .int .u8 3, .int .u8 61, .int .u8 58, .int .u8 42, .int .u8 50, .int .u8 38, .int .u8 29, .int .u8 17, .int .u8 4, .int .u8 62, .int .u8 47, .int .u8 59, .int .u8 36, .int .u8 45, .int .u8 43, .int .u8 51, .int .u8 22, .int .u8 53, .int .u8 39, .int .u8 33, .int .u8 30, .int .u8 24, .int .u8 18, .int .u8 12, .int .u8 5, .int .u8 63, .int .u8 55, .int .u8 48, .int .u8 27, .int .u8 60, .int .u8 41, .int .u8 37, .int .u8 16, .int .u8 46, .int .u8 35, .int .u8 44, .int .u8 21, .int .u8 52, .int .u8 32, .int .u8 23, .int .u8 11, .int .u8 54, .int .u8 26, .int .u8 40, .int .u8 15, .int .u8 34, .int .u8 20, .int .u8 31, .int .u8 10, .int .u8 25, .int .u8 14, .int .u8 19, .int .u8 9, .int .u8 13, .int .u8 8, .int .u8 7, .int .u8 6] t frozen
      | o => o).modify 2 fun
      | .cells _ t frozen => .cells #[.int .u64 1, .int .u64 10, .int .u64 100, .int .u64 1000, .int .u64 10000, .int .u64 100000, .int .u64 1000000, .int .u64 10000000, .int .u64 100000000, .int .u64 1000000000, .int .u64 10000000000, .int .u64 100000000000, .int .u64 1000000000000, .int .u64 10000000000000, .int .u64 100000000000000, .int .u64 1000000000000000, .int .u64 10000000000000000, .int .u64 100000000000000000, .int .u64 1000000000000000000, .int .u64 10000000000000000000] t frozen
      | o => o) }
theorem laidWorld_met (os : Os) (args : Array Value) : laidMetH Tryd.prog Rows.fnExactToldTextRow.laid ((laidWorld os).forCall (fun _ _ => 0) ⟨#[], args, []⟩).memory := by
  rw [MakeChecks.laidMetH_plain _ _ _ (by kernel_rfl)]
  exact laidMet_of_run3 8 (by kernel_rfl) (by kernel_rfl) (by kernel_rfl)
theorem tab_heap {W : World} {name : String} {k : IntKind} {zs : List Int} {g : Nat} (h : Lib.TabIs Tryd.prog W name k zs) (hg : Tryd.prog.globalNamed name = some g) : ∃ t f, W.heap[g]? = some (.cells (zs.map (Value.int k)).toArray t f) := by
  unfold Lib.TabIs World.var? at h
  rw [hg, Option.bind_some] at h
  split at h
  · rename_i cs t f hc
    injection h with h
    subst h
    exact ⟨t, f, hc⟩
  · cases h
theorem has_pow {W : World} (h : laidMetH Tryd.prog Rows.fnExactToldTextRow.laid W) : ∃ t f, W.heap[2]? = some (.cells (Lib.pow10Tab.map (Value.int .u64)).toArray t f) := by
  rw [MakeChecks.laidMetH_plain _ _ _ (by kernel_rfl)] at h
  have h2 := h.filter (fun x => x.1 == "internal/strconv.uint64pow10")
  have e : (Rows.fnExactToldTextRow.laid.filter fun x => x.1 == "internal/strconv.uint64pow10") = [("internal/strconv.uint64pow10", Lib.tabData .u64 Lib.pow10Tab)] := by kernel_rfl
  rw [e] at h2
  exact tab_heap (Lib.tabIs_of_head (g := 2) (t := 154) (e := 91) (n := 20) (by kernel_rfl) (by kernel_rfl) Tryd.underlying154 Tryd.underlying91 (by kernel_rfl) (by kernel_rfl) h2) (by kernel_rfl)
theorem laid_tabs {W : World} (h : laidMetH Tryd.prog Rows.fnExactToldTextRow.laid W) : ∀ x ∈ tabL, ∃ t f, W.heap[x.1]? = some (.cells x.2.toArray t f) := by
  intro x hx
  unfold tabL at hx
  simp only [List.mem_cons, List.not_mem_nil, or_false] at hx
  rcases hx with rfl
  · exact has_pow h
set_option maxRecDepth 100000 in
theorem lifted (os : Os) (started : os.Started) (H : Type) (enc : TypeId × Value → H) :
    ReturnsInHanded {} Tryd.checked os 5 .any (fun w args => (Rows.fnExactToldTextSpec.pre enc Tryd.prog Tryd.f5 [] false w args ∧ laidMetH Tryd.prog Rows.fnExactToldTextRow.laid w) ∧ sizedMet enc Tryd.prog Tryd.f5 (OpenSpec.ofChange Rows.fnExactToldTextSpec) false w args) (Rows.fnExactToldTextSpec.post enc Tryd.prog Tryd.f5 false true false false) := by
  refine returnsInHanded_of_change_and (C := Tryd.checked) (X := fun w _ => laidMetH Tryd.prog Rows.fnExactToldTextRow.laid w) (fun _ _ _ hh h => h.of_heap hh) own started (by kernel_rfl) Tryd.func5
    (ChangeSpec.witness_at (enc := enc) (C := Tryd.checked) (os := os) (X := fun w _ => laidMetH Tryd.prog Rows.fnExactToldTextRow.laid w) false (laidWorld os) #[.agg #[.int .i64 0, .int .i64 0, .slice none 0 0, .slice none 0 0]] 8 rfl (by kernel_rfl) (by kernel_rfl) (by kernel_rfl) (by kernel_rfl) (by kernel_rfl) (laidWorld_met os _)) ?_
  intro W base args ds gs before hval0 hW hcnd hsz0 hL _
  have hval : ∀ (j : Nat) t v, Tryd.f5.params[j]? = some t → args[j]? = some v → Value.okWide Tryd.prog W .any base t v := hval0
  have hW' := hW
  obtain ⟨p, q, hA0, hV, rfl, hfz, hnd⟩ := hW
  have hA : DataW.TrodAll enc Tryd.prog W 0 (fun _ => true) true Tryd.f5.params.toList args.toList ds p := hA0
  rw [Tryd.params5] at hA hval
  obtain ⟨v0, vs0, d0, ds0, p0, q0, hargs, rfl, rfl, h0, r0⟩ := trodAll_cons hA
  obtain ⟨rfl, rfl, rfl⟩ := trodAll_nil r0
  obtain rfl : args = #[v0] := by cases args; simp_all
  obtain ⟨rfl, rfl⟩ := trodVars_none hV
  have lt0 : ∀ x ∈ p0, x.block < W.heap.size := by obtain ⟨m, hm⟩ := h0; exact DataW.trod_lt m _ _ _ hm
  obtain ⟨x0, hK0, hw0⟩ := opens_arg (opens_struct0 (total := 4) Tryd.underlying42 (by kernel_rfl) (opensF_cons (o := 0) (o' := 1) (total := 4) rfl (by kernel_rfl) (opens_int Tryd.underlying3) (opensF_cons (o := 1) (o' := 2) (total := 4) rfl (by kernel_rfl) (opens_int Tryd.underlying3) (opensF_cons (o := 2) (o' := 3) (total := 4) rfl (by kernel_rfl) (opens_slice Tryd.underlying39 (by kernel_rfl) oE89) (opensF_last (o := 3) (total := 4) rfl (by kernel_rfl) (opens_slice Tryd.underlying40 (by kernel_rfl) oE97)))))) h0
  obtain ⟨cs0, rfl, hcs0⟩ := arg_struct Tryd.underlying42 (hval 0 42 v0 rfl rfl)
  rw [hcs0] at hK0
  obtain ⟨a0_0, ⟨a0_1, ⟨a0_2, a0_3⟩⟩⟩ := x0
  obtain ⟨wa0_0, ⟨wa0_1, ⟨wa0_2, wa0_3⟩⟩⟩ := hw0
  obtain ⟨cp0_1, cq0_1, ee0_1, hp0_1, hq0_1⟩ := hK0
  have ea0_0 := hp0_1
  obtain ⟨cp0_2, cq0_2, ee0_2, hp0_2, hq0_2⟩ := hq0_1
  have ea0_1 := hp0_2
  obtain ⟨cp0_3, cq0_3, ee0_3, hp0_3, hq0_3⟩ := hq0_2
  obtain ⟨A0_2, c0_2, ea0_2, hc0_2, hA0_2⟩ := hp0_3
  obtain ⟨A0_3, c0_3, ea0_3, hc0_3, hA0_3⟩ := hq0_3
  obtain rfl : cs0 = #[.int .i64 a0_0, .int .i64 a0_1, .slice A0_2 a0_2.length c0_2, .slice A0_3 a0_3.length c0_3] := by
    have hl : cs0.toList = [.int .i64 a0_0, .int .i64 a0_1, .slice A0_2 a0_2.length c0_2, .slice A0_3 a0_3.length c0_3] := by rw [ee0_1, ea0_0, ee0_2, ea0_1, ee0_3, ea0_2, ea0_3]; rfl
    cases cs0
    simpa using hl
  clear hA0 hval0 hsz0
  have hn := Pure.FnExactToldText a0_0 a0_1 a0_2 a0_3 wa0_0 wa0_1 wa0_2 wa0_3
  have hrs : F2 (RoAs W) [⟨89, (.pair (.int .i64) (.pair (.int .i64) (.pair (.int .i64) (.pair (.int .i64) (.pair (.int .i64) (.pair (.int .i64) (.pair (.int .i64) (.pair (.int .i64) (.pair (.sl 3 (.int .i64)) .bool))))))))), a0_2, .ro⟩, ⟨97, (.pair (.int .i64) (.pair (.int .i64) (.int .i64))), a0_3, .ro⟩] [.slice A0_2 a0_2.length c0_2, .slice A0_3 a0_3.length c0_3] := ⟨⟨rfl, A0_2, c0_2, rfl, hc0_2, hA0_2⟩, ⟨rfl, A0_3, c0_3, rfl, hc0_3, hA0_3⟩, trivial⟩
  have hin : F2 (AV.R (gh0 W [.slice A0_2 a0_2.length c0_2, .slice A0_3 a0_3.length c0_3])) [.s1 (.agg [.val (.int .i64 a0_0), .val (.int .i64 a0_1), .sl 0, .sl 1])] [Value.agg #[(.int .i64 a0_0), (.int .i64 a0_1), (.slice A0_2 a0_2.length c0_2), (.slice A0_3 a0_3.length c0_3)]] := ⟨⟨_, rfl, ⟨rfl, rfl, rfl, rfl, trivial⟩⟩, trivial⟩
  have hE : E5 [.s1 (.agg [.val (.int .i64 a0_0), .val (.int .i64 a0_1), .sl 0, .sl 1])] [] [⟨89, (.pair (.int .i64) (.pair (.int .i64) (.pair (.int .i64) (.pair (.int .i64) (.pair (.int .i64) (.pair (.int .i64) (.pair (.int .i64) (.pair (.int .i64) (.pair (.sl 3 (.int .i64)) .bool))))))))), a0_2, .ro⟩, ⟨97, (.pair (.int .i64) (.pair (.int .i64) (.int .i64))), a0_3, .ro⟩] = some ⟨Bool, L.FnExactToldText a0_0 a0_1 a0_2 a0_3, fun t => resOf sg5.rsk (encP sg5.rks (toA sg5.rks t))⟩ := by kernel_rfl
  have hT := laid_tabs hL
  refine (good_true good5 (t := true) hE hn (by kernel_rfl) hT hrs hin).mono fun e W' ⟨he, bel⟩ => ?_
  subst he
  exact ⟨_, rfl, _, _, _, [], _, [], hW', trodAll_mk1 (shut_bool Tryd.underlying4 _), (trodAll_cons_mk (Below.trod laidOut (by kernel_rfl) (of_decide_eq_true (by kernel_rfl)) h0 bel lt0) trodAll_mk0), rfl, bel.frame _, fun h => by cases h⟩
theorem band {a b : Bool} (h1 : a = true) (h2 : b = true) : (a && b) = true := by rw [h1, h2]; rfl
set_option maxHeartbeats 40000000 in
theorem joined : joinedFacts Tryd.pinned.checked.prog 5 Tryd.f5 Rows.fnExactToldTextSpec Rows.fnExactToldTextRow = true := by
  unfold joinedFacts
  refine band (band (band (band (band (band (band (band (band (band (band (band (band (band (band (band (band (band (band (band (band (band (band (band (band (band (band (band (band (band (band ?_ ?_) ?_) ?_) ?_) ?_) ?_) ?_) ?_) ?_) ?_) ?_) ?_) ?_) ?_) ?_) ?_) ?_) ?_) ?_) ?_) ?_) ?_) ?_) ?_) ?_) ?_) ?_) ?_) ?_) ?_) ?_
  all_goals decide +kernel
theorem instOk : Tryd.f5.isInstance Tryd.pinned.checked.prog Rows.fnExactToldTextRow.origin Rows.fnExactToldTextRow.targs := of_decide_eq_true (by kernel_rfl)
theorem wrapOk : Tryd.f5.isWrapper Tryd.pinned.checked.prog Rows.fnExactToldTextRow.wrapper Rows.fnExactToldTextRow.mainSum := by unfold Func.isWrapper; first | (rw [if_pos (by decide +kernel)]; kernel_rfl) | (rw [if_neg (by decide +kernel)]; exact ⟨rfl, rfl⟩)
theorem over : Rows.fnExactToldTextRow.holds Tryd.pinned (OpenSpec.ofChange Rows.fnExactToldTextSpec) :=
  OpenClaim.holds_of_wide 5 Tryd.f5 rfl rfl rfl rfl rfl rfl rfl ⟨rfl, rfl, rfl, rfl, rfl⟩ rfl rfl rfl rfl rfl (by kernel_rfl) Tryd.func5 joined instOk wrapOk
    (fun os started H enc _ => lifted os started H enc)
end Go.Proofs.YtipipipngmenoaaDoor.fnExactToldText
namespace Go.Proofs.YtipipipngmenoaaDoor
theorem fnExactToldText_holds : Rows.FnExactToldTextCardSaid :=
  Claim7.holds_tied_plain_at .later [] [.data, .data, .data] true (true, "ec9e9a289add74e964231e9c9886c35c1b846603b9a5ba0e5f16eeb1fe3504f6") false fnExactToldText.over (fun _ h => by cases h) (by kernel_rfl) (fun _ h => by cases h) fnExactToldText_row_tie rfl ⟨rfl, rfl⟩ (by kernel_rfl) rfl
    (fun f fn hf hfn => by
      obtain rfl : f = 5 := Option.some.inj ((show Tryd.prog.funcNamed Rows.fnExactToldTextRow.func = some 5 by kernel_rfl).symm.trans hf) |>.symm
      obtain rfl : fn = Tryd.f5 := (Option.some.inj (Tryd.func5.symm.trans hfn)).symm
      refine ⟨by kernel_rfl, fun j t ht => ?_⟩
      rw [Tryd.params5] at ht
      have hall : (([42] : List Nat).all fun t => !Tryd.prog.wantsStandIn t) = true := by kernel_rfl
      have hm : t ∈ ([42] : List Nat) := by
        have := Array.mem_of_getElem? ht
        simpa using this
      have hw := List.all_eq_true.1 hall t hm
      have hw2 : Tryd.prog.wantsStandIn t = false := by simpa using hw
      exact hw2)
    (by kernel_rfl)
#print axioms fnExactToldText_holds
end Go.Proofs.YtipipipngmenoaaDoor
