/- The row of FnExactOpText: for every input the call returns true, and each argument reads as it read before. No condition. -/
import Derived.Test.YtipipipngmenoaaDoorCards
import Derived.Test.YtipipipngmenoaaDoorTie
import Derived.SevenTiedAt
import Derived.MakeChecks
import Derived.Deep.DeepLaidRun
import Derived.LaidHandle
import Derived.LaidSub
import Derived.Handed
import Derived.ChangeSame
import Derived.ChangeVars
import Derived.JoinedOf
import Derived.Test.YtipipipngmenoaaDoorRows
import Derived.Test.YtipipipngmenoaaDoorStmtFnExactOpText
import Derived.Test.YtipipipngmenoaaDoorPureFnExactOpText
import Derived.Test.YtipipipngmenoaaDoorOpen
import Derived.WalkKit
import Derived.ProofKit
import Derived.OpenShut
import Derived.ShutString
import Derived.ChangeOld
import Derived.Below
import Derived.SizedLaws
import Derived.LaidLaws
namespace Go.Proofs.YtipipipngmenoaaDoor.fnExactOpText
open Go.ChangeShapes Go.WideShapes Go.ChangeAt Go.RowKit Go.Proofs.YtipipipngmenoaaDoor.Opening Go.Proofs.YtipipipngmenoaaDoorW.PrintWords Go.Proofs.YtipipipngmenoaaDoor.Vm Go.Proofs.YtipipipngmenoaaDoor.Run Go.Proofs.YtipipipngmenoaaDoor.StmtFnExactOpText
set_option linter.unusedVariables false
set_option linter.unusedSimpArgs false
theorem own : ownKnob Tryd.prog.godebug = none := by kernel_rfl
theorem laidOut : laidOutB Tryd.prog = true := by kernel_rfl
section
variable {H : Type} {enc : TypeId × Value → H} {W : World}
end
noncomputable def low : Nat := (World.holding Tryd.prog default ⟨#[], #[], []⟩).heap.size
noncomputable def laidWorld (os : Os) : World :=
  let w0 := World.holding Tryd.prog os ⟨#[.cells #[.slice (some ⟨low + 1, 0, none⟩) 7 7, .slice none 0 0, .int .i64 2] 144, .cells #[.int .u16 9, .int .u16 13, .int .u16 1, .int .u16 32, .int .u16 133, .int .u16 101, .int .u16 160, .int .u16 5760, .int .u16 5600, .int .u16 8192, .int .u16 8202, .int .u16 1, .int .u16 8232, .int .u16 8233, .int .u16 1, .int .u16 8239, .int .u16 8287, .int .u16 48, .int .u16 12288, .int .u16 12288, .int .u16 1] 147], #[], []⟩
  { w0 with heap := (((((w0.heap.modify 4 fun
      | .cells _ t frozen => .cells #[.int .u8 0, .int .u8 1, .int .u8 28, .int .u8 2, .int .u8 29, .int .u8 14, .int .u8 24, .int .u8 3, .int .u8 30, .int .u8 22, .int .u8 20, .int .u8 15, .int .u8 25, .int .u8 17, .int .u8 4, .int .u8 8, .int .u8 31, .int .u8 27, .int .u8 13, .int .u8 23, .int .u8 21, .int .u8 19, .int .u8 16, .int .u8 7, .int .u8 26, .int .u8 12, .int .u8 18, .int .u8 6, .int .u8 11, .int .u8 5, .int .u8 10, .int .u8 9] t frozen
      | o => o).modify 5 fun
      | .cells _ t frozen => .cells #[.int .u8 0, .int .u8 1, .int .u8 56, .int .u8 2, .int .u8 57, .int .u8 49, .int .u8 28, .int .u8 3, .int .u8 61, .int .u8 58, .int .u8 42, .int .u8 50, .int .u8 38, .int .u8 29, .int .u8 17, .int .u8 4, .int .u8 62, .int .u8 47, .int .u8 59, .int .u8 36, .int .u8 45, .int .u8 43, .int .u8 51, .int .u8 22, .int .u8 53, .int .u8 39, .int .u8 33, .int .u8 30, .int .u8 24, .int .u8 18, .int .u8 12, .int .u8 5, .int .u8 63, .int .u8 55, .int .u8 48, .int .u8 27, .int .u8 60, .int .u8 41, .int .u8 37, .int .u8 16, .int .u8 46, .int .u8 35, .int .u8 44, .int .u8 21, .int .u8 52, .int .u8 32, .int .u8 23, .int .u8 11, .int .u8 54, .int .u8 26, .int .u8 40, .int .u8 15, .int .u8 34, .int .u8 20, .int .u8 31, .int .u8 10, .int .u8 25, .int .u8 14, .int .u8 19, .int .u8 9, .int .u8 13, .int .u8 8, .int .u8 7, .int .u8 6] t frozen
      | o => o).modify 2 fun
      | .cells _ t frozen => .cells #[.int .u64 1, .int .u64 10, .int .u64 100, .int .u64 1000, .int .u64 10000, .int .u64 100000, .int .u64 1000000, .int .u64 10000000, .int .u64 100000000, .int .u64 1000000000, .int .u64 10000000000, .int .u64 100000000000, .int .u64 1000000000000, .int .u64 10000000000000, .int .u64 100000000000000, .int .u64 1000000000000000, .int .u64 10000000000000000, .int .u64 100000000000000000, .int .u64 1000000000000000000, .int .u64 10000000000000000000] t frozen
      | o => o).modify 1 fun
      | .cells _ t frozen => .cells #[.pointer (some ⟨low, 0, none⟩)] t frozen
      | o => o).modify 0 fun
      | .cells _ t frozen => .cells #[.int .u8 0, .int .u8 0, .int .u8 0, .int .u8 0, .int .u8 0, .int .u8 0, .int .u8 0, .int .u8 0, .int .u8 0, .int .u8 1, .int .u8 1, .int .u8 1, .int .u8 1, .int .u8 1, .int .u8 0, .int .u8 0, .int .u8 0, .int .u8 0, .int .u8 0, .int .u8 0, .int .u8 0, .int .u8 0, .int .u8 0, .int .u8 0, .int .u8 0, .int .u8 0, .int .u8 0, .int .u8 0, .int .u8 0, .int .u8 0, .int .u8 0, .int .u8 0, .int .u8 1, .int .u8 0, .int .u8 0, .int .u8 0, .int .u8 0, .int .u8 0, .int .u8 0, .int .u8 0, .int .u8 0, .int .u8 0, .int .u8 0, .int .u8 0, .int .u8 0, .int .u8 0, .int .u8 0, .int .u8 0, .int .u8 0, .int .u8 0, .int .u8 0, .int .u8 0, .int .u8 0, .int .u8 0, .int .u8 0, .int .u8 0, .int .u8 0, .int .u8 0, .int .u8 0, .int .u8 0, .int .u8 0, .int .u8 0, .int .u8 0, .int .u8 0, .int .u8 0, .int .u8 0, .int .u8 0, .int .u8 0, .int .u8 0, .int .u8 0, .int .u8 0, .int .u8 0, .int .u8 0, .int .u8 0, .int .u8 0, .int .u8 0, .int .u8 0, .int .u8 0, .int .u8 0, .int .u8 0, .int .u8 0, .int .u8 0, .int .u8 0, .int .u8 0, .int .u8 0, .int .u8 0, .int .u8 0, .int .u8 0, .int .u8 0, .int .u8 0, .int .u8 0, .int .u8 0, .int .u8 0, .int .u8 0, .int .u8 0, .int .u8 0, .int .u8 0, .int .u8 0, .int .u8 0, .int .u8 0, .int .u8 0, .int .u8 0, .int .u8 0, .int .u8 0, .int .u8 0, .int .u8 0, .int .u8 0, .int .u8 0, .int .u8 0, .int .u8 0, .int .u8 0, .int .u8 0, .int .u8 0, .int .u8 0, .int .u8 0, .int .u8 0, .int .u8 0, .int .u8 0, .int .u8 0, .int .u8 0, .int .u8 0, .int .u8 0, .int .u8 0, .int .u8 0, .int .u8 0, .int .u8 0, .int .u8 0, .int .u8 0, .int .u8 0, .int .u8 0, .int .u8 0, .int .u8 0, .int .u8 0, .int .u8 0, .int .u8 0, .int .u8 0, .int .u8 0, .int .u8 0, .int .u8 0, .int .u8 0, .int .u8 0, .int .u8 0, .int .u8 0, .int .u8 0, .int .u8 0, .int .u8 0, .int .u8 0, .int .u8 0, .int .u8 0, .int .u8 0, .int .u8 0, .int .u8 0, .int .u8 0, .int .u8 0, .int .u8 0, .int .u8 0, .int .u8 0, .int .u8 0, .int .u8 0, .int .u8 0, .int .u8 0, .int .u8 0, .int .u8 0, .int .u8 0, .int .u8 0, .int .u8 0, .int .u8 0, .int .u8 0, .int .u8 0, .int .u8 0, .int .u8 0, .int .u8 0, .int .u8 0, .int .u8 0, .int .u8 0, .int .u8 0, .int .u8 0, .int .u8 0, .int .u8 0, .int .u8 0, .int .u8 0, .int .u8 0, .int .u8 0, .int .u8 0, .int .u8 0, .int .u8 0, .int .u8 0, .int .u8 0, .int .u8 0, .int .u8 0, .int .u8 0, .int .u8 0, .int .u8 0, .int .u8 0, .int .u8 0, .int .u8 0, .int .u8 0, .int .u8 0, .int .u8 0, .int .u8 0, .int .u8 0, .int .u8 0, .int .u8 0, .int .u8 0, .int .u8 0, .int .u8 0, .int .u8 0, .int .u8 0, .int .u8 0, .int .u8 0, .int .u8 0, .int .u8 0, .int .u8 0, .int .u8 0, .int .u8 0, .int .u8 0, .int .u8 0, .int .u8 0, .int .u8 0, .int .u8 0, .int .u8 0, .int .u8 0, .int .u8 0, .int .u8 0, .int .u8 0, .int .u8 0, .int .u8 0, .int .u8 0, .int .u8 0, .int .u8 0, .int .u8 0, .int .u8 0, .int .u8 0, .int .u8 0, .int .u8 0, .int .u8 0, .int .u8 0, .int .u8 0, .int .u8 0, .int .u8 0, .int .u8 0, .int .u8 0, .int .u8 0, .int .u8 0, .int .u8 0, .int .u8 0, .int .u8 0, .int .u8 0, .int .u8 0, .int .u8 0, .int .u8 0, .int .u8 0, .int .u8 0, .int .u8 0, .int .u8 0, .int .u8 0] t frozen
      | o => o) }
theorem laidWorld_met (os : Os) (args : Array Value) : laidMetH Tryd.prog Rows.fnExactOpTextRow.laid ((laidWorld os).forCall (fun _ _ => 0) ⟨#[], args, []⟩).memory := by
  rw [MakeChecks.laidMetH_plain _ _ _ (by kernel_rfl)]
  exact laidMet_of_run3 8 (by kernel_rfl) (by kernel_rfl) (by kernel_rfl)
theorem tab_heap {W : World} {name : String} {k : IntKind} {zs : List Int} {g : Nat} (h : Lib.TabIs Tryd.prog W name k zs) (hg : Tryd.prog.globalNamed name = some g) : ∃ t f, W.heap[g]? = some (.cells (zs.map (Value.int k)).toArray t f) := by
  unfold Lib.TabIs World.var? at h
  rw [hg, Option.bind_some] at h
  split at h
  · rename_i cs t f hc
    injection h with h
    subst h
    exact ⟨t, f, hc⟩
  · cases h
theorem has_pow {W : World} (h : laidMetH Tryd.prog Rows.fnExactOpTextRow.laid W) : ∃ t f, W.heap[2]? = some (.cells (Lib.pow10Tab.map (Value.int .u64)).toArray t f) := by
  rw [MakeChecks.laidMetH_plain _ _ _ (by kernel_rfl)] at h
  have h2 := h.filter (fun x => x.1 == "internal/strconv.uint64pow10")
  have e : (Rows.fnExactOpTextRow.laid.filter fun x => x.1 == "internal/strconv.uint64pow10") = [("internal/strconv.uint64pow10", Lib.tabData .u64 Lib.pow10Tab)] := by kernel_rfl
  rw [e] at h2
  exact tab_heap (Lib.tabIs_of_head (g := 2) (t := 154) (e := 91) (n := 20) (by kernel_rfl) (by kernel_rfl) Tryd.underlying154 Tryd.underlying91 (by kernel_rfl) (by kernel_rfl) h2) (by kernel_rfl)
theorem has_space {W : World} (h : laidMetH Tryd.prog Rows.fnExactOpTextRow.laid W) : ∃ t f, W.heap[0]? = some (.cells (Lib.asciiSpaceTab.map (Value.int .u8)).toArray t f) := by
  rw [MakeChecks.laidMetH_plain _ _ _ (by kernel_rfl)] at h
  have h2 := h.filter (fun x => x.1 == "strings.asciiSpace")
  have e : (Rows.fnExactOpTextRow.laid.filter fun x => x.1 == "strings.asciiSpace") = [("strings.asciiSpace", Lib.tabData .u8 Lib.asciiSpaceTab)] := by kernel_rfl
  rw [e] at h2
  exact tab_heap (Lib.tabIs_of_head (g := 0) (t := 121) (e := 5) (n := 256) (by kernel_rfl) (by kernel_rfl) Tryd.underlying121 Tryd.underlying5 (by kernel_rfl) (by kernel_rfl) h2) (by kernel_rfl)
theorem laid_tabs {W : World} (h : laidMetH Tryd.prog Rows.fnExactOpTextRow.laid W) : ∀ x ∈ tabL, ∃ t f, W.heap[x.1]? = some (.cells x.2.toArray t f) := by
  intro x hx
  unfold tabL at hx
  simp only [List.mem_cons, List.not_mem_nil, or_false] at hx
  rcases hx with rfl | rfl
  · exact has_pow h
  · exact has_space h
set_option maxRecDepth 100000 in
theorem lifted (os : Os) (started : os.Started) (H : Type) (enc : TypeId × Value → H) :
    ReturnsInHanded {} Tryd.checked os 6 .any (fun w args => (Rows.fnExactOpTextSpec.pre enc Tryd.prog Tryd.f6 [] false w args ∧ laidMetH Tryd.prog Rows.fnExactOpTextRow.laid w) ∧ sizedMet enc Tryd.prog Tryd.f6 (OpenSpec.ofChange Rows.fnExactOpTextSpec) false w args) (Rows.fnExactOpTextSpec.post enc Tryd.prog Tryd.f6 false true false false) := by
  refine returnsInHanded_of_change_and (C := Tryd.checked) (X := fun w _ => laidMetH Tryd.prog Rows.fnExactOpTextRow.laid w) (fun _ _ _ hh h => h.of_heap hh) own started (by kernel_rfl) Tryd.func6
    (ChangeSpec.witness_shaped (enc := enc) (C := Tryd.checked) (os := os) (X := fun w _ => laidMetH Tryd.prog Rows.fnExactOpTextRow.laid w) false (laidWorld os) #[.agg #[.int .i64 0, .int .i64 0, .int .i64 0, .int .i64 0, .int .i64 0, .int .i64 0, .int .i64 0, .int .i64 0, .int .i64 0, .int .i64 0, .int .i64 0]] 8 rfl (World.shaped_of_RefB (by kernel_rfl) (by kernel_rfl)) (by kernel_rfl) (by kernel_rfl) (by kernel_rfl) (laidWorld_met os _)) ?_
  intro W base args ds gs before hval0 hW hcnd hsz0 hL _
  have hval : ∀ (j : Nat) t v, Tryd.f6.params[j]? = some t → args[j]? = some v → Value.okWide Tryd.prog W .any base t v := hval0
  have hW' := hW
  obtain ⟨p, q, hA0, hV, rfl, hfz, hnd⟩ := hW
  have hA : DataW.TrodAll enc Tryd.prog W 0 (fun _ => true) true Tryd.f6.params.toList args.toList ds p := hA0
  rw [Tryd.params6] at hA hval
  obtain ⟨v0, vs0, d0, ds0, p0, q0, hargs, rfl, rfl, h0, r0⟩ := trodAll_cons hA
  obtain ⟨rfl, rfl, rfl⟩ := trodAll_nil r0
  obtain rfl : args = #[v0] := by cases args; simp_all
  obtain ⟨rfl, rfl⟩ := trodVars_none hV
  have lt0 : ∀ x ∈ p0, x.block < W.heap.size := by obtain ⟨m, hm⟩ := h0; exact DataW.trod_lt m _ _ _ hm
  obtain ⟨x0, hK0, hw0⟩ := opens_arg (opens_struct0 (total := 11) Tryd.underlying57 (by kernel_rfl) (opensF_cons (o := 0) (o' := 1) (total := 11) rfl (by kernel_rfl) (opens_int Tryd.underlying3) (opensF_cons (o := 1) (o' := 5) (total := 11) rfl (by kernel_rfl) (opens_struct0 (total := 4) Tryd.underlying53 (by kernel_rfl) (opensF_cons (o := 0) (o' := 1) (total := 4) rfl (by kernel_rfl) (opens_int Tryd.underlying3) (opensF_cons (o := 1) (o' := 2) (total := 4) rfl (by kernel_rfl) (opens_int Tryd.underlying3) (opensF_cons (o := 2) (o' := 3) (total := 4) rfl (by kernel_rfl) (opens_int Tryd.underlying3) (opensF_last (o := 3) (total := 4) rfl (by kernel_rfl) (opens_int Tryd.underlying3)))))) (opensF_cons (o := 5) (o' := 9) (total := 11) rfl (by kernel_rfl) (opens_struct0 (total := 4) Tryd.underlying55 (by kernel_rfl) (opensF_cons (o := 0) (o' := 1) (total := 4) rfl (by kernel_rfl) (opens_int Tryd.underlying3) (opensF_cons (o := 1) (o' := 2) (total := 4) rfl (by kernel_rfl) (opens_int Tryd.underlying3) (opensF_cons (o := 2) (o' := 3) (total := 4) rfl (by kernel_rfl) (opens_int Tryd.underlying3) (opensF_last (o := 3) (total := 4) rfl (by kernel_rfl) (opens_int Tryd.underlying3)))))) (opensF_cons (o := 9) (o' := 10) (total := 11) rfl (by kernel_rfl) (opens_int Tryd.underlying3) (opensF_last (o := 10) (total := 11) rfl (by kernel_rfl) (opens_int Tryd.underlying3))))))) h0
  obtain ⟨cs0, rfl, hcs0⟩ := arg_struct Tryd.underlying57 (hval 0 57 v0 rfl rfl)
  rw [hcs0] at hK0
  obtain ⟨a0_0, ⟨⟨a0_1, ⟨a0_2, ⟨a0_3, a0_4⟩⟩⟩, ⟨⟨a0_5, ⟨a0_6, ⟨a0_7, a0_8⟩⟩⟩, ⟨a0_9, a0_10⟩⟩⟩⟩ := x0
  obtain ⟨wa0_0, ⟨⟨wa0_1, ⟨wa0_2, ⟨wa0_3, wa0_4⟩⟩⟩, ⟨⟨wa0_5, ⟨wa0_6, ⟨wa0_7, wa0_8⟩⟩⟩, ⟨wa0_9, wa0_10⟩⟩⟩⟩ := hw0
  obtain ⟨cp0_1, cq0_1, ee0_1, hp0_1, hq0_1⟩ := hK0
  have ea0_0 := hp0_1
  obtain ⟨cp0_2, cq0_2, ee0_2, hp0_2, hq0_2⟩ := hq0_1
  obtain ⟨cp0_3, cq0_3, ee0_3, hp0_3, hq0_3⟩ := hp0_2
  have ea0_1 := hp0_3
  obtain ⟨cp0_4, cq0_4, ee0_4, hp0_4, hq0_4⟩ := hq0_3
  have ea0_2 := hp0_4
  obtain ⟨cp0_5, cq0_5, ee0_5, hp0_5, hq0_5⟩ := hq0_4
  have ea0_3 := hp0_5
  have ea0_4 := hq0_5
  obtain ⟨cp0_6, cq0_6, ee0_6, hp0_6, hq0_6⟩ := hq0_2
  obtain ⟨cp0_7, cq0_7, ee0_7, hp0_7, hq0_7⟩ := hp0_6
  have ea0_5 := hp0_7
  obtain ⟨cp0_8, cq0_8, ee0_8, hp0_8, hq0_8⟩ := hq0_7
  have ea0_6 := hp0_8
  obtain ⟨cp0_9, cq0_9, ee0_9, hp0_9, hq0_9⟩ := hq0_8
  have ea0_7 := hp0_9
  have ea0_8 := hq0_9
  obtain ⟨cp0_10, cq0_10, ee0_10, hp0_10, hq0_10⟩ := hq0_6
  have ea0_9 := hp0_10
  have ea0_10 := hq0_10
  obtain rfl : cs0 = #[.int .i64 a0_0, .int .i64 a0_1, .int .i64 a0_2, .int .i64 a0_3, .int .i64 a0_4, .int .i64 a0_5, .int .i64 a0_6, .int .i64 a0_7, .int .i64 a0_8, .int .i64 a0_9, .int .i64 a0_10] := by
    have hl : cs0.toList = [.int .i64 a0_0, .int .i64 a0_1, .int .i64 a0_2, .int .i64 a0_3, .int .i64 a0_4, .int .i64 a0_5, .int .i64 a0_6, .int .i64 a0_7, .int .i64 a0_8, .int .i64 a0_9, .int .i64 a0_10] := by rw [ee0_1, ea0_0, ee0_2, ee0_3, ea0_1, ee0_4, ea0_2, ee0_5, ea0_3, ea0_4, ee0_6, ee0_7, ea0_5, ee0_8, ea0_6, ee0_9, ea0_7, ea0_8, ee0_10, ea0_9, ea0_10]; rfl
    cases cs0
    simpa using hl
  clear hA0 hval0 hsz0
  have hn := Pure.FnExactOpText a0_0 a0_1 a0_2 a0_3 a0_4 a0_5 a0_6 a0_7 a0_8 a0_9 a0_10 wa0_0 wa0_1 wa0_2 wa0_3 wa0_4 wa0_5 wa0_6 wa0_7 wa0_8 wa0_9 wa0_10
  have hrs : F2 (RoAs W) [] [] := trivial
  have hin : F2 (AV.R (gh0 W [])) [.s1 (.agg [.val (.int .i64 a0_0), .val (.int .i64 a0_1), .val (.int .i64 a0_2), .val (.int .i64 a0_3), .val (.int .i64 a0_4), .val (.int .i64 a0_5), .val (.int .i64 a0_6), .val (.int .i64 a0_7), .val (.int .i64 a0_8), .val (.int .i64 a0_9), .val (.int .i64 a0_10)])] [Value.agg #[(.int .i64 a0_0), (.int .i64 a0_1), (.int .i64 a0_2), (.int .i64 a0_3), (.int .i64 a0_4), (.int .i64 a0_5), (.int .i64 a0_6), (.int .i64 a0_7), (.int .i64 a0_8), (.int .i64 a0_9), (.int .i64 a0_10)]] := ⟨⟨_, rfl, ⟨rfl, rfl, rfl, rfl, rfl, rfl, rfl, rfl, rfl, rfl, rfl, trivial⟩⟩, trivial⟩
  have hE : E6 [.s1 (.agg [.val (.int .i64 a0_0), .val (.int .i64 a0_1), .val (.int .i64 a0_2), .val (.int .i64 a0_3), .val (.int .i64 a0_4), .val (.int .i64 a0_5), .val (.int .i64 a0_6), .val (.int .i64 a0_7), .val (.int .i64 a0_8), .val (.int .i64 a0_9), .val (.int .i64 a0_10)])] [] [] = some ⟨Bool, L.FnExactOpText a0_0 a0_1 a0_2 a0_3 a0_4 a0_5 a0_6 a0_7 a0_8 a0_9 a0_10, fun t => resOf sg6.rsk (encP sg6.rks (toA sg6.rks t))⟩ := by kernel_rfl
  have hT := laid_tabs hL
  refine (good_true good6 (t := true) hE hn (by kernel_rfl) hT hrs hin).mono fun e W' ⟨he, bel⟩ => ?_
  subst he
  exact ⟨_, rfl, _, _, _, [], _, [], hW', trodAll_mk1 (shut_bool Tryd.underlying4 _), (trodAll_cons_mk (Below.trod laidOut (by kernel_rfl) (of_decide_eq_true (by kernel_rfl)) h0 bel lt0) trodAll_mk0), rfl, bel.frame _, fun h => by cases h⟩
theorem band {a b : Bool} (h1 : a = true) (h2 : b = true) : (a && b) = true := by rw [h1, h2]; rfl
set_option maxHeartbeats 40000000 in
theorem joined : joinedFacts Tryd.pinned.checked.prog 6 Tryd.f6 Rows.fnExactOpTextSpec Rows.fnExactOpTextRow = true := by
  unfold joinedFacts
  refine band (band (band (band (band (band (band (band (band (band (band (band (band (band (band (band (band (band (band (band (band (band (band (band (band (band (band (band (band (band (band ?_ ?_) ?_) ?_) ?_) ?_) ?_) ?_) ?_) ?_) ?_) ?_) ?_) ?_) ?_) ?_) ?_) ?_) ?_) ?_) ?_) ?_) ?_) ?_) ?_) ?_) ?_) ?_) ?_) ?_) ?_) ?_
  all_goals decide +kernel
theorem instOk : Tryd.f6.isInstance Tryd.pinned.checked.prog Rows.fnExactOpTextRow.origin Rows.fnExactOpTextRow.targs := of_decide_eq_true (by kernel_rfl)
theorem wrapOk : Tryd.f6.isWrapper Tryd.pinned.checked.prog Rows.fnExactOpTextRow.wrapper Rows.fnExactOpTextRow.mainSum := by unfold Func.isWrapper; first | (rw [if_pos (by decide +kernel)]; kernel_rfl) | (rw [if_neg (by decide +kernel)]; exact ⟨rfl, rfl⟩)
theorem over : Rows.fnExactOpTextRow.holds Tryd.pinned (OpenSpec.ofChange Rows.fnExactOpTextSpec) :=
  OpenClaim.holds_of_wide 6 Tryd.f6 rfl rfl rfl rfl rfl rfl rfl ⟨rfl, rfl, rfl, rfl, rfl⟩ rfl rfl rfl rfl rfl (by kernel_rfl) Tryd.func6 joined instOk wrapOk
    (fun os started H enc _ => lifted os started H enc)
end Go.Proofs.YtipipipngmenoaaDoor.fnExactOpText
namespace Go.Proofs.YtipipipngmenoaaDoor
theorem fnExactOpText_holds : Rows.FnExactOpTextCardSaid :=
  Claim7.holds_tied_plain_at .later [] [.data, .data, .data, .listed, .data] true (true, "ec9e9a289add74e964231e9c9886c35c1b846603b9a5ba0e5f16eeb1fe3504f6") false fnExactOpText.over (fun _ h => by cases h) (by kernel_rfl) (fun _ h => by cases h) fnExactOpText_row_tie rfl ⟨rfl, rfl⟩ (by kernel_rfl) rfl
    (fun f fn hf hfn => by
      obtain rfl : f = 6 := Option.some.inj ((show Tryd.prog.funcNamed Rows.fnExactOpTextRow.func = some 6 by kernel_rfl).symm.trans hf) |>.symm
      obtain rfl : fn = Tryd.f6 := (Option.some.inj (Tryd.func6.symm.trans hfn)).symm
      refine ⟨by kernel_rfl, fun j t ht => ?_⟩
      rw [Tryd.params6] at ht
      have hall : (([57] : List Nat).all fun t => !Tryd.prog.wantsStandIn t) = true := by kernel_rfl
      have hm : t ∈ ([57] : List Nat) := by
        have := Array.mem_of_getElem? ht
        simpa using this
      have hw := List.all_eq_true.1 hall t hm
      have hw2 : Tryd.prog.wantsStandIn t = false := by simpa using hw
      exact hw2)
    (by kernel_rfl)
#print axioms fnExactOpText_holds
end Go.Proofs.YtipipipngmenoaaDoor
