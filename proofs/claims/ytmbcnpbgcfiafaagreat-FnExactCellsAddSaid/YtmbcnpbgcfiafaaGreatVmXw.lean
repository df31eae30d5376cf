/- The walks of the library's functions that no contract of the shelf covers: slices.Grow[int], slices.Sorted[int] over slices.Values, slices.Insert at cells. -/
import Derived.Test.YtmbcnpbgcfiafaaGreatProg
import Derived.Lib.AppendZerosOnto
import Derived.Laws.NewBlocks
import Derived.Laws.CopyRow
import Derived.WalkKit
import Derived.Lib.Walk
import Derived.Shelf.RegionOpenPlain
import Derived.RangeFuncBox
import Derived.RangeFuncLeaves
import Derived.Shelf.Abstract
import Derived.OwnWalkIn
import Derived.TacticsInMore
import Derived.LoopNIn
import Derived.LoopIn
import Derived.Maps.AppendAt
import Derived.Shelf.Sort.Plain
import Derived.Sort.OwnSorted
import Derived.Shelf.SlIterI.Sorted
import Derived.Shelf.Spec.SlicesInsert
namespace Go.Proofs
open Go Go.RowKit Go.Maps Go.Sort Go.Shelf Go.Lib Go.Proofs
set_option linter.unusedVariables false
set_option linter.unusedSimpArgs false
theorem Xc.mixed : Tryz.prog.follows .mixedOrders = true := by kernel_rfl
theorem Xc.info3 : (Tryz.prog.info? 3).map (fun i => (i.zero, i.size, i.bytes)) = some (some (.int .i64 0), 1, 8) := by kernel_rfl
set_option maxHeartbeats 4000000 in
set_option maxRecDepth 100000 in
theorem Xc.grow_none (n : Nat) (hn : n ≤ 17592186044416) (w : World) : Calls Tryz.prog 333 #[.slice none 0 0, .int .i64 n] w fun e w' =>
    ∃ v', e = .returned v' ∧ w.grownBy w' none ∧ w'.ownsRow 0 3 1 v' 0 [] ∧ (v'.ownBlock = none ∨ v'.ownBlock = some w.heap.size) := by
  have mixed := Xc.mixed
  obtain ⟨i0, hi0, hz0, hzs, hzb⟩ := info_parts Xc.info3
  have hw1 : IntKind.i64.wrap ((n : Int) - 0) = (n : Int) := by rw [IntKind.wrap_i64]; omega
  have hw2 : IntKind.i64.wrap (n : Int) = (n : Int) := by rw [IntKind.wrap_i64]; omega
  have hneg : ¬ ((n : Int) < 0) := by omega
  by_cases h0 : n = 0
  · subst h0
    go_enter Tryz.func333, Tryz.ntmps333
    go_wp2
    go_ret
    exact ⟨_, rfl, ⟨rfl, rfl, rfl, Nat.le_refl _, fun _ _ _ => rfl⟩, ⟨rfl, .inl ⟨rfl, rfl⟩⟩, .inl rfl⟩
  · have hpos : (0 : Int) < (n : Int) := by omega
    have hpos' : 0 < n := by omega
    have hrz : ∀ ty, (Builtin.append_ #[38, 3] ty #[.slice none 0 0, .int .i64 (n : Int)]).run Tryz.prog w =
        .ok (.slice (some ⟨w.heap.size, 0, none⟩) (0 + n) (grownCap w (0 + n) 0 3)) (w.drew.alloc (.cells ((([] : List Value).toArray ++ Builtin.zeroCells (Value.int .i64 0).cells n ++ Builtin.zeroCells (Value.int .i64 0).cells (grownCap w (0 + n) 0 3 - (0 + n)))) 3)) := fun ty =>
      Lib.run_append_grow_zeros w 38 3 ty 3 i0 _ .i64 .i64 Tryz.underlying38 Tryz.underlying3 hi0 hz0 none 0 0 [] (by rw [hzs]; exact run_firstCells_none w.drew 1 0 0 0) n hpos' (by omega) (by omega) (by omega) (by rw [hzb]; omega) (by rw [hzb]; exact growslice_fits (by omega) (by omega))
    obtain ⟨G, hG⟩ : ∃ G, G = grownCap w (0 + n) 0 3 := ⟨_, rfl⟩
    have hGn : 0 + n ≤ G := by rw [hG]; exact grownCap_ge w _ _ _
    have hGm : G ≤ maxLen := by rw [hG]; exact grownCap_le_maxLen w _ _ _ (by unfold maxLen; omega)
    rw [← hG] at hrz
    go_enter Tryz.func333, Tryz.ntmps333
    go_wp2_with (at_builtin; refine Lib.wpList_append_run _ rfl _ _ _ _ rfl _ _ rfl rfl _ _ (hrz _) ?_)
    go_ret
    have hge : 0 + n ≤ grownCap w (0 + n) 0 3 := grownCap_ge w _ _ _
    have hgm : grownCap w (0 + n) 0 3 ≤ maxLen := grownCap_le_maxLen w _ _ _ (by unfold maxLen; omega)
    rw [Nat.zero_add] at hge hgm
    refine ⟨_, rfl, ⟨rfl, rfl, rfl, by simp, fun k hk _ => heap_alloc_old w.drew _ hk⟩, ⟨rfl, .inr ⟨w.heap.size, grownCap w n 0 3, _, rfl, Nat.zero_le _, heap_alloc_new w.drew _, Nat.zero_le _, hgm, ?_, by simp⟩⟩, .inr rfl⟩
    simp only [Array.size_append, size_zeroCells, List.size_toArray, List.length_cons, List.length_nil]
    omega
set_option maxHeartbeats 4000000 in
set_option maxRecDepth 100000 in
theorem Xc.grow_some (n : Nat) (hn : n ≤ 17592186044416) (w : World) (g c : Nat) (cur : Array Value) (hg : w.heap[g]? = some (.cells cur 3 (0, 0))) (hcm : c ≤ maxLen) (hsz : cur.size = c * 1) : Calls Tryz.prog 333 #[.slice (some ⟨g, 0, none⟩) 0 c, .int .i64 n] w fun e w' =>
    ∃ v', e = .returned v' ∧ w.grownBy w' (some g) ∧ w'.ownsRow 0 3 1 v' 0 [] ∧ (v'.ownBlock = some g ∨ v'.ownBlock = some w.heap.size) := by
  have mixed := Xc.mixed
  obtain ⟨i0, hi0, hz0, hzs, hzb⟩ := info_parts Xc.info3
  have hcm' : c ≤ 9223372036854775807 := by unfold maxLen at hcm; omega
  have hw1 : IntKind.i64.wrap ((n : Int) - (c : Int)) = (n : Int) - (c : Int) := by rw [IntKind.wrap_i64]; omega
  have hw2 : IntKind.i64.wrap (n : Int) = (n : Int) := by rw [IntKind.wrap_i64]; omega
  have hw3 : IntKind.i64.wrap (c : Int) = (c : Int) := by rw [IntKind.wrap_i64]; omega
  have hneg : ¬ ((n : Int) < 0) := by omega
  have hcc : (c : Int) - 0 = (c : Int) := by omega
  by_cases h0 : n ≤ c
  · have hpos : ¬ ((0 : Int) < (n : Int) - (c : Int)) := by omega
    go_enter Tryz.func333, Tryz.ntmps333
    go_wp2
    go_ret
    exact ⟨_, rfl, ⟨rfl, rfl, rfl, Nat.le_refl _, fun _ _ _ => rfl⟩, ⟨rfl, .inr ⟨g, c, cur, rfl, Nat.zero_le _, hg, Nat.zero_le _, hcm, hsz, by simp⟩⟩, .inl rfl⟩
  · have hpos : (0 : Int) < (n : Int) - (c : Int) := by omega
    have hnc : (n : Int) - (c : Int) = ((n - c : Nat) : Int) := by omega
    have hcn : c + (n - c) = n := by omega
    have hold : (Builtin.firstCells i0.size c (.slice (some ⟨g, 0, none⟩) c c)).run Tryz.prog w.drew = .ok cur.toList.toArray w.drew := by
      rw [hzs]
      refine run_firstCells_some w.drew 1 c ⟨g, 0, none⟩ c c cur.toList (by rw [Array.length_toList]; omega) (fun j v hj => ?_)
      rw [Addr.add_lit]
      have hh : w.drew.heap[g]? = some (.cells cur 3 (0, 0)) := hg
      have hj2 : cur[j]? = some v := by rw [← Array.getElem?_toList]; exact hj
      simp [World.cell?, hh, hj2]
    have hrz : ∀ ty, (Builtin.append_ #[38, 3] ty #[.slice (some ⟨g, 0, none⟩) c c, .int .i64 ((n - c : Nat) : Int)]).run Tryz.prog w =
        .ok (.slice (some ⟨w.heap.size, 0, none⟩) n (grownCap w n c 3)) (w.drew.alloc (.cells (cur.toList.toArray ++ Builtin.zeroCells (Value.int .i64 0).cells (n - c) ++ Builtin.zeroCells (Value.int .i64 0).cells (grownCap w n c 3 - n)) 3)) := fun ty => by
      have h := Lib.run_append_grow_zeros w 38 3 ty 3 i0 _ .i64 .i64 Tryz.underlying38 Tryz.underlying3 hi0 hz0 (some ⟨g, 0, none⟩) c c cur.toList hold (n - c) (by omega) (by omega) (by omega) (by omega) (by rw [hzb]; omega) (by rw [hzb, hcn]; exact growslice_fits (by omega) (by omega))
      rw [hcn] at h
      exact h
    go_enter Tryz.func333, Tryz.ntmps333
    go_wp2_with (at_builtin; refine Lib.wpList_append_run _ rfl _ _ _ _ rfl _ _ rfl rfl _ _ (hrz _) ?_)
    go_ret
    have hge : n ≤ grownCap w n c 3 := grownCap_ge w _ _ _
    have hgm : grownCap w n c 3 ≤ maxLen := grownCap_le_maxLen w _ _ _ (by unfold maxLen; omega)
    refine ⟨_, rfl, ⟨rfl, rfl, rfl, by simp, fun k hk _ => heap_alloc_old w.drew _ hk⟩, ⟨rfl, .inr ⟨w.heap.size, grownCap w n c 3, _, rfl, Nat.zero_le _, heap_alloc_new w.drew _, Nat.zero_le _, hgm, ?_, by simp⟩⟩, .inr rfl⟩
    simp only [Array.size_append, size_zeroCells, List.size_toArray, List.length_cons, List.length_nil, Array.length_toList]
    omega
theorem Xc.info113 : ∃ z, (Tryz.prog.info? 113).map (fun i => (i.zero, i.size, i.bytes)) = some (some z, 11, 104) ∧ z.cells.size = 11 := ⟨((Tryz.prog.info? 113).bind (·.zero)).getD undef, by kernel_rfl, by kernel_rfl⟩
theorem Xc.copy_row {P : Program} (w : World) (dT sT ty elem : TypeId) (g o dLen dCap sz : Nat) (a : Addr) (sLen sCap : Nat) (cur : Array Value) (t : TypeId) (cs : List Value)
    (hu : P.underlying dT = some (.slice elem)) (hs : (P.info? elem).map (·.size) = some sz)
    (hg : w.heap[g]? = some (.cells cur t (0, 0))) (hn : cs.length = Nat.min sLen dLen * sz)
    (hsrc : ∀ j v, cs[j]? = some v → w.cell? (a.add j) = some v) (hfit : o + cs.length ≤ cur.size) (h1 : ∀ v ∈ cs, v.oneCell' = true) :
    (Builtin.copy_ #[dT, sT] ty #[.slice (some ⟨g, o, none⟩) dLen dCap, .slice (some a) sLen sCap]).run P w =
      .ok (goInt (Nat.min sLen dLen)) (w.setRow g (cur.toList.take o ++ cs ++ cur.toList.drop (o + cs.length)).toArray) := by
  have hl := run_loadCells_list (P := P) w a cs hsrc
  have hst := run_storeCells_at P g o t cs 0 cur w hg (by simpa using hfit) h1
  cases hq : P.info? elem with
  | none => simp [hq] at hs
  | some i =>
    have hi : i.size = sz := by simpa [hq] using hs
    simp [Builtin.copy_, run_underlying hu, Builtin.lenOf, Builtin.firstCells, sizeOf, typeInfo, hq, hi, ← hn, hl, hst]
set_option maxHeartbeats 4000000 in
set_option maxRecDepth 100000 in
theorem Xc.ins_grow (b n c i vb m vc : Nat) (cs vs : List Value) (w : World) (hi : i < n) (hm : 0 < m) (hnc : n ≤ c) (hroom : c < n + m) (hbig : (n + m) * 104 ≤ 140737488355328)
    (hcl : cs.length = n * 11) (hvl : vs.length = m * 11)
    (hcs : ∀ j v, cs[j]? = some v → w.cell? ⟨b, j, none⟩ = some v)
    (hvs : ∀ j v, vs[j]? = some v → w.cell? ⟨vb, j, none⟩ = some v) (h1c : ∀ v ∈ cs, v.oneCell' = true) (h1v : ∀ v ∈ vs, v.oneCell' = true) :
    Calls Tryz.prog 224 #[.slice (some ⟨b, 0, none⟩) n c, .int .i64 i, .slice (some ⟨vb, 0, none⟩) m vc] w fun e w' => ∃ G cur',
      e = .returned (.slice (some ⟨w.heap.size, 0, none⟩) (n + m) G) ∧ n + m ≤ G ∧ G ≤ maxLen ∧ w.grownBy w' none ∧ w'.heap[w.heap.size]? = some (.cells cur' 113 (0, 0)) ∧ cur'.size = G * 11 ∧ cur'.toList.take ((n + m) * 11) = cs.take (i * 11) ++ vs ++ cs.drop (i * 11) := by
  have mixed := Xc.mixed
  obtain ⟨z, hz, hzc⟩ := Xc.info113
  obtain ⟨i0, hi0, hz0, hzs, hzb⟩ := info_parts hz
  have hz1 : ¬ ((m : Int) = 0) := by omega
  have hz2 : ¬ ((i : Int) = (n : Int)) := by omega
  have hz3 : (c : Int) < (n : Int) + (m : Int) := by omega
  have hsz : (Tryz.prog.info? 113).map (·.size) = some 11 := by rw [hi0]; simp [hzs]
  have hbw : b < w.heap.size := block_lt_of_cell (hcs 0 _ (List.getElem?_eq_getElem (by omega)))
  have hvw : vb < w.heap.size := block_lt_of_cell (hvs 0 _ (List.getElem?_eq_getElem (by omega)))
  have hkk : (n : Int) + (m : Int) - (i : Int) = ((n + m - i : Nat) : Int) := by omega
  have hik : i + (n + m - i) = n + m := by omega
  have hold : (Builtin.firstCells i0.size i (.slice (some ⟨b, 0, none⟩) i c)).run Tryz.prog w.drew = .ok (cs.take (i * 11)).toArray w.drew := by
    rw [hzs]
    exact run_firstCells_some w.drew 11 i ⟨b, 0, none⟩ i c (cs.take (i * 11)) (by rw [List.length_take]; omega) (fun j v hj => by
      rw [Addr.add_lit, Nat.zero_add]
      rw [List.getElem?_take] at hj
      split at hj
      · exact hcs j v hj
      · cases hj)
  have hrz : ∀ ty, (Builtin.append_ #[26, 3] ty #[.slice (some ⟨b, 0, none⟩) i c, .int .i64 ((n : Int) + (m : Int) - (i : Int))]).run Tryz.prog w =
      .ok (.slice (some ⟨w.heap.size, 0, none⟩) (n + m) (grownCap w (n + m) c 113)) (w.drew.alloc (.cells ((cs.take (i * 11)).toArray ++ Builtin.zeroCells z.cells (n + m - i) ++ Builtin.zeroCells z.cells (grownCap w (n + m) c 113 - (n + m))) 113)) := fun ty => by
    have h := Lib.run_append_grow_zeros w 26 3 ty 113 i0 _ .i64 .i64 Tryz.underlying26 Tryz.underlying3 hi0 hz0 (some ⟨b, 0, none⟩) i c (cs.take (i * 11)) hold (n + m - i) (by omega) (by omega) (by omega) (by omega) (by rw [hzb]; omega) (by rw [hzb, hik]; exact growslice_fits hroom hbig)
    rw [hik] at h
    rw [hkk]
    exact h
  obtain ⟨G, hG⟩ : ∃ G, G = grownCap w (n + m) c 113 := ⟨_, rfl⟩
  obtain ⟨ROW, hROW⟩ : ∃ ROW : Array Value, (cs.take (i * 11)).toArray ++ Builtin.zeroCells z.cells (n + m - i) ++ Builtin.zeroCells z.cells (G - (n + m)) = ROW := ⟨_, rfl⟩
  rw [← hG] at hrz
  rw [hROW] at hrz
  have hGn : n + m ≤ G := by rw [hG]; exact grownCap_ge w _ _ _
  have hGm : G ≤ maxLen := by rw [hG]; exact grownCap_le_maxLen w (n + m) c 113 (by unfold maxLen; omega)
  have hG63 : G ≤ 9223372036854775807 := by unfold maxLen at hGm; omega
  have hRl : ROW.size = G * 11 := by
    rw [← hROW]
    simp only [Array.size_append, size_zeroCells, List.size_toArray, List.length_take, hzc]
    omega
  have hGi : ¬ (G = i) := by omega
  have hGim : ¬ (G = i + m) := by omega
  have hci : ¬ (c = i) := by omega
  have hw1 : IntKind.i64.wrap ((i : Int) + (m : Int)) = (i : Int) + (m : Int) := by rw [IntKind.wrap_i64]; omega
  have hb1 : (0 : Int) ≤ (i : Int) + (m : Int) := by omega
  have hin : i ≤ n := by omega
  have htn : ((i : Int) + (m : Int)).toNat = i + m := by omega
  have hb3 : (i : Int) ≤ (n : Int) := by omega
  clear hkk hik hold hG
  have hbN : b ≠ w.heap.size := by omega
  have hvN : vb ≠ w.heap.size := by omega
  have hdl : (cs.drop (i * 11)).length = (n - i) * 11 := by rw [List.length_drop, hcl, Nat.sub_mul]
  obtain ⟨W1, hW1⟩ : ∃ W1, W1 = (w.alloc (.cells ROW 113)).drew := ⟨_, rfl⟩
  have hW1h : W1.heap[w.heap.size]? = some (.cells ROW 113 (0, 0)) := by rw [hW1]; exact heap_alloc_new w _
  have hW1c : ∀ a v, a.block ≠ w.heap.size → w.cell? a = some v → W1.cell? a = some v := by
    intro a v ha hc
    have h1 : W1.heap[a.block]? = w.heap[a.block]? := by
      rw [hW1]
      have hlt : a.block < w.heap.size := by
        unfold World.cell? at hc
        split at hc
        · rename_i hh; exact (Array.getElem?_eq_some_iff.1 hh).1
        · cases hc
      exact heap_alloc_old w _ hlt
    unfold World.cell? at hc ⊢
    rw [h1]
    exact hc
  have hi11 : i * 11 + vs.length ≤ ROW.size := by rw [hvl, hRl]; omega
  have hcpA : ∀ ty dc, (Builtin.copy_ #[26, 26] ty #[.slice (some ⟨w.heap.size, i * 11, none⟩) (n + m - i) dc, .slice (some ⟨vb, 0, none⟩) m vc]).run Tryz.prog W1 = .ok (goInt (Nat.min m (n + m - i))) (W1.setRow w.heap.size (ROW.toList.take (i * 11) ++ vs ++ ROW.toList.drop (i * 11 + vs.length)).toArray) := fun ty dc =>
    Xc.copy_row W1 26 26 ty 113 w.heap.size (i * 11) (n + m - i) dc 11 ⟨vb, 0, none⟩ m vc ROW 113 vs Tryz.underlying26 hsz hW1h (by rw [hvl]; congr 1; simp only [Nat.min_def]; split <;> omega)
      (fun j v hj => by rw [Addr.add_lit, Nat.zero_add]; exact hW1c _ v hvN (hvs j v hj)) hi11 h1v
  obtain ⟨R1, hR1⟩ : ∃ R1, (ROW.toList.take (i * 11) ++ vs ++ ROW.toList.drop (i * 11 + vs.length)).toArray = R1 := ⟨_, rfl⟩
  rw [hR1] at hcpA
  have hR1l : R1.size = G * 11 := by
    rw [← hR1]
    simp only [List.size_toArray, List.length_append, List.length_take, List.length_drop, Array.length_toList]
    omega
  have hsH : W1.heap.size = w.heap.size + 1 := by rw [hW1]; simp
  obtain ⟨W2, hW2⟩ : ∃ W2, W2 = (W1.setRow w.heap.size R1).drew := ⟨_, rfl⟩
  have hW2h : W2.heap[w.heap.size]? = some (.cells R1 113 (0, 0)) := by rw [hW2]; exact setRow_heap W1 w.heap.size ROW R1 113 _ hW1h
  have hW2c : ∀ a v, a.block ≠ w.heap.size → W1.cell? a = some v → W2.cell? a = some v := by
    intro a v ha hc
    have h1 : W2.heap[a.block]? = W1.heap[a.block]? := by rw [hW2]; exact setRow_other W1 w.heap.size a.block R1 ha
    unfold World.cell? at hc ⊢
    rw [h1]
    exact hc
  have hcpB : ∀ ty dc sc, (Builtin.copy_ #[26, 26] ty #[.slice (some ⟨w.heap.size, (i + m) * 11, none⟩) (n + m - (i + m)) dc, .slice (some ⟨b, i * 11, none⟩) (n - i) sc]).run Tryz.prog W2 = .ok (goInt (Nat.min (n - i) (n + m - (i + m)))) (W2.setRow w.heap.size (R1.toList.take ((i + m) * 11) ++ cs.drop (i * 11) ++ R1.toList.drop ((i + m) * 11 + (cs.drop (i * 11)).length)).toArray) := fun ty dc sc =>
    Xc.copy_row W2 26 26 ty 113 w.heap.size ((i + m) * 11) (n + m - (i + m)) dc 11 ⟨b, i * 11, none⟩ (n - i) sc R1 113 (cs.drop (i * 11)) Tryz.underlying26 hsz hW2h (by rw [hdl]; congr 1; simp only [Nat.min_def]; split <;> omega)
      (fun j v hj => by rw [Addr.add_lit]; rw [List.getElem?_drop] at hj; exact hW2c _ v hbN (hW1c _ v hbN (hcs _ v hj))) (by rw [hdl, hR1l]; omega) (fun v hv => h1c v (List.mem_of_mem_drop hv))
  obtain ⟨R2, hR2⟩ : ∃ R2, (R1.toList.take ((i + m) * 11) ++ cs.drop (i * 11) ++ R1.toList.drop ((i + m) * 11 + (cs.drop (i * 11)).length)).toArray = R2 := ⟨_, rfl⟩
  rw [hR2] at hcpB
  have hR2l : R2.size = G * 11 := by
    rw [← hR2]
    simp only [List.size_toArray, List.length_append, List.length_take, List.length_drop, Array.length_toList]
    omega
  have fin : R2.toList.take ((n + m) * 11) = cs.take (i * 11) ++ vs ++ cs.drop (i * 11) := by
    have e1 : (cs.take (i * 11)).length = i * 11 := by rw [List.length_take]; omega
    have e0 : ROW.toList.take (i * 11) = cs.take (i * 11) := by
      rw [← hROW]
      simp only [Array.toList_append, List.append_assoc]
      rw [List.take_append_of_le_length (by omega), List.take_of_length_le (by omega)]
    have e2 : (cs.take (i * 11) ++ vs).length = (i + m) * 11 := by rw [List.length_append]; omega
    have e3 : R1.toList.take ((i + m) * 11) = cs.take (i * 11) ++ vs := by
      rw [← hR1, e0]
      simp only [List.append_assoc]
      rw [← List.append_assoc, List.take_append_of_le_length (by omega), List.take_of_length_le (by omega)]
    rw [← hR2, e3]
    have e4 : (cs.take (i * 11) ++ vs ++ cs.drop (i * 11)).length = (n + m) * 11 := by rw [List.length_append, e2, hdl]; omega
    rw [List.take_append_of_le_length (by omega), List.take_of_length_le (by omega)]
  have hgr : w.grownBy ((((w.alloc (.cells ROW 113)).drew.setRow w.heap.size R1).drew).setRow w.heap.size R2) none := by
    refine ⟨rfl, rfl, rfl, by simp, fun k hk _ => ?_⟩
    rw [setRow_other _ _ _ _ (by omega)]
    show ((w.alloc (.cells ROW 113)).drew.setRow w.heap.size R1).heap[k]? = _
    rw [setRow_other _ _ _ _ (by omega)]
    exact heap_alloc_old w _ hk
  subst hW2
  subst hW1
  have hlast := setRow_heap _ w.heap.size R1 R2 113 _ hW2h
  clear hR1 hR2 hROW
  go_enter Tryz.func224, Tryz.ntmps224
  go_wp2_with (first
    | (at_builtin; refine Lib.wpList_append_run _ rfl _ _ _ _ rfl _ _ rfl rfl _ _ (hrz _) ?_)
    | (at_builtin; refine wpList_copy_runI _ rfl _ _ 26 26 rfl _ _ rfl rfl (hcpA _ _) ?_))
  go_region_law_o (refine step_copy_runI rfl _ _ 26 26 rfl (.slice (some ⟨w.heap.size, (i + m) * 11, none⟩) (n + m - (i + m)) (G - (i + m))) (.slice (some ⟨b, i * 11, none⟩) (n - i) (c - i)) (by simp [Act.eval, Act.put]) (by simp [Act.eval, Act.put]) (hcpB 3 (G - (i + m)) (c - i)) ?_)
  go_wp2
  go_ret
  exact ⟨G, R2, rfl, hGn, hGm, hgr, hlast, hR2l, fin⟩
set_option maxHeartbeats 4000000 in
set_option maxRecDepth 100000 in
theorem Xc.ins_shift (b n c i vb m vc : Nat) (cs vs : List Value) (cur vcur : Array Value) (tv : TypeId) (w : World) (hi : i < n) (hm : 0 < m) (hroom : n + m ≤ c) (hcm : c ≤ maxLen) (hvb : vb ≠ b)
    (hcl : cs.length = n * 11) (hvl : vs.length = m * 11) (hbh : w.heap[b]? = some (.cells cur 113 (0, 0))) (hcz : cur.size = c * 11) (hcc : cur.toList.take (n * 11) = cs)
    (hvh : w.heap[vb]? = some (.cells vcur tv (0, 0)))
    (hcs : ∀ j v, cs[j]? = some v → w.cell? ⟨b, j, none⟩ = some v)
    (hvs : ∀ j v, vs[j]? = some v → w.cell? ⟨vb, j, none⟩ = some v) (h1c : ∀ v ∈ cs, v.oneCell' = true) (h1v : ∀ v ∈ vs, v.oneCell' = true) :
    Calls Tryz.prog 224 #[.slice (some ⟨b, 0, none⟩) n c, .int .i64 i, .slice (some ⟨vb, 0, none⟩) m vc] w fun e w' => ∃ cur',
      e = .returned (.slice (some ⟨b, 0, none⟩) (n + m) c) ∧ w.grownBy w' (some b) ∧ w'.heap[b]? = some (.cells cur' 113 (0, 0)) ∧ cur'.size = c * 11 ∧ cur'.toList.take ((n + m) * 11) = cs.take (i * 11) ++ vs ++ cs.drop (i * 11) := by
  have mixed := Xc.mixed
  obtain ⟨z, hz, hzc⟩ := Xc.info113
  obtain ⟨i0, hi0, hz0, hzs, hzb⟩ := info_parts hz
  have hz1 : ¬ ((m : Int) = 0) := by omega
  have hz2 : ¬ ((i : Int) = (n : Int)) := by omega
  have hz3 : ¬ ((c : Int) < (n : Int) + (m : Int)) := by omega
  have hsz : (Tryz.prog.info? 113).map (·.size) = some 11 := by rw [hi0]; simp [hzs]
  have hso : ∀ w, (Go.sizeOf 113).run Tryz.prog w = .ok 11 w := fun w => by simp [Go.sizeOf, typeInfo, hi0, hzs]
  have hbw : b < w.heap.size := (Array.getElem?_eq_some_iff.1 hbh).1
  have hvw : vb < w.heap.size := (Array.getElem?_eq_some_iff.1 hvh).1
  have hov : ∀ lb cb, (callFunc 284 #[.slice (some ⟨vb, 0, none⟩) m vc, .slice (some ⟨b, (i + m) * 11, none⟩) lb cb]).run Tryz.prog w = .ok (.value (.bool false)) w := fun lb cb => by
    rw [run_callFunc_extern Tryz.func284 (by kernel_rfl) (by kernel_rfl) (by kernel_rfl) (e := Extern.SlicesOverlaps.overlaps #[26, 26] #[4]) (by kernel_rfl),
      Lib.run_overlaps_apart w 26 4 113 Tryz.underlying26 11 hso ⟨vb, 0, none⟩ ⟨b, (i + m) * 11, none⟩ m vc lb cb hvb tv 113 vcur.size cur.size (by simp [World.shape?, hvh]) (by simp [World.shape?, hbh]) (by omega) (by simp [World.frozen?, hvh]) (by simp [World.frozen?, hvh])]
    rfl
  have hdl : (cs.drop (i * 11)).length = (n - i) * 11 := by rw [List.length_drop, hcl, Nat.sub_mul]
  have hw1 : IntKind.i64.wrap ((i : Int) + (m : Int)) = (i : Int) + (m : Int) := by rw [IntKind.wrap_i64]; unfold maxLen at hcm; omega
  have hw2 : IntKind.i64.wrap ((n : Int) + (m : Int)) = (n : Int) + (m : Int) := by rw [IntKind.wrap_i64]; unfold maxLen at hcm; omega
  have hb1 : (0 : Int) ≤ (i : Int) + (m : Int) := by omega
  have hin : i ≤ n := by omega
  have htn : ((i : Int) + (m : Int)).toNat = i + m := by omega
  have hb2 : ¬ (c = i + m) := by omega
  have hb3 : (i : Int) ≤ (n : Int) + (m : Int) := by omega
  have hb4 : ¬ (c = i) := by omega
  have hc63 : c ≤ 9223372036854775807 := by unfold maxLen at hcm; omega
  have hcp1 : ∀ ty dc sc, (Builtin.copy_ #[26, 26] ty #[.slice (some ⟨b, (i + m) * 11, none⟩) (n + m - (i + m)) dc, .slice (some ⟨b, i * 11, none⟩) (n + m - i) sc]).run Tryz.prog w.drew = .ok (goInt (Nat.min (n + m - i) (n + m - (i + m)))) (w.drew.setRow b (cur.toList.take ((i + m) * 11) ++ cs.drop (i * 11) ++ cur.toList.drop ((i + m) * 11 + (cs.drop (i * 11)).length)).toArray) := fun ty dc sc =>
    Xc.copy_row w.drew 26 26 ty 113 b ((i + m) * 11) (n + m - (i + m)) dc 11 ⟨b, i * 11, none⟩ (n + m - i) sc cur 113 (cs.drop (i * 11)) Tryz.underlying26 hsz hbh (by rw [hdl]; congr 1; simp only [Nat.min_def]; split <;> omega)
      (fun j v hj => by rw [Addr.add_lit]; rw [List.getElem?_drop] at hj; exact hcs _ v hj) (by rw [hdl, hcz]; omega) (fun v hv => h1c v (List.mem_of_mem_drop hv))
  obtain ⟨R1, hR1⟩ : ∃ R1, (cur.toList.take ((i + m) * 11) ++ cs.drop (i * 11) ++ cur.toList.drop ((i + m) * 11 + (cs.drop (i * 11)).length)).toArray = R1 := ⟨_, rfl⟩
  rw [hR1] at hcp1
  have hR1l : R1.size = c * 11 := by
    rw [← hR1]
    simp only [List.size_toArray, List.length_append, List.length_take, List.length_drop, Array.length_toList]
    omega
  have hW1h : (w.drew.setRow b R1).heap[b]? = some (.cells R1 113 (0, 0)) := setRow_heap w.drew b cur R1 113 _ hbh
  have hcp2 : ∀ ty dc, (Builtin.copy_ #[26, 26] ty #[.slice (some ⟨b, i * 11, none⟩) (n + m - i) dc, .slice (some ⟨vb, 0, none⟩) m vc]).run Tryz.prog (w.drew.setRow b R1) = .ok (goInt (Nat.min m (n + m - i))) ((w.drew.setRow b R1).setRow b (R1.toList.take (i * 11) ++ vs ++ R1.toList.drop (i * 11 + vs.length)).toArray) := fun ty dc =>
    Xc.copy_row (w.drew.setRow b R1) 26 26 ty 113 b (i * 11) (n + m - i) dc 11 ⟨vb, 0, none⟩ m vc R1 113 vs Tryz.underlying26 hsz hW1h (by rw [hvl]; congr 1; simp only [Nat.min_def]; split <;> omega)
      (fun j v hj => by rw [Addr.add_lit, Nat.zero_add, cell_setRow_other _ _ _ _ hvb]; exact hvs j v hj) (by rw [hvl, hR1l]; omega) h1v
  obtain ⟨R2, hR2⟩ : ∃ R2, (R1.toList.take (i * 11) ++ vs ++ R1.toList.drop (i * 11 + vs.length)).toArray = R2 := ⟨_, rfl⟩
  rw [hR2] at hcp2
  have hR2l : R2.size = c * 11 := by
    rw [← hR2]
    simp only [List.size_toArray, List.length_append, List.length_take, List.length_drop, Array.length_toList]
    omega
  have fin : R2.toList.take ((n + m) * 11) = cs.take (i * 11) ++ vs ++ cs.drop (i * 11) := by
    have e0 : (cur.toList.take ((i + m) * 11)).length = (i + m) * 11 := by rw [List.length_take, Array.length_toList]; omega
    have e1 : R1.toList.take (i * 11) = cs.take (i * 11) := by
      rw [← hR1]
      simp only [List.append_assoc]
      rw [List.take_append_of_le_length (by omega), List.take_take, ← hcc, List.take_take]
      congr 1
      omega
    have e2 : R1.toList.drop (i * 11 + vs.length) = cs.drop (i * 11) ++ cur.toList.drop ((i + m) * 11 + (cs.drop (i * 11)).length) := by
      rw [← hR1]
      simp only [List.append_assoc]
      rw [List.drop_append, List.drop_of_length_le (by omega), List.nil_append, show i * 11 + vs.length - (cur.toList.take ((i + m) * 11)).length = 0 from by omega, List.drop_zero]
    rw [← hR2, e1, e2]
    have e4 : (cs.take (i * 11) ++ vs ++ cs.drop (i * 11)).length = (n + m) * 11 := by rw [List.length_append, List.length_append, List.length_take, hdl]; omega
    rw [← List.append_assoc, List.take_append_of_le_length (by omega), List.take_of_length_le (by omega)]
  have hgr : w.grownBy ((w.drew.setRow b R1).setRow b R2) (some b) := by
    refine ⟨rfl, rfl, rfl, by simp, fun k hk hkb => ?_⟩
    have hkb' : k ≠ b := fun e => hkb (by rw [e])
    rw [setRow_other _ _ _ _ hkb', setRow_other _ _ _ _ hkb']
    rfl
  have hlast := setRow_heap _ b R1 R2 113 _ hW1h
  clear hR1 hR2 hcc
  go_enter Tryz.func224, Tryz.ntmps224
  go_wp2_with (simp only [hov])
  go_region_law_o (refine step_copy_runI rfl _ _ 26 26 rfl (.slice (some ⟨b, (i + m) * 11, none⟩) (n + m - (i + m)) (c - (i + m))) (.slice (some ⟨b, i * 11, none⟩) (n + m - i) (c - i)) (by simp [Act.eval, Act.put]) (by simp [Act.eval, Act.put]) (hcp1 _ _ _) ?_)
  go_wp2_with (at_builtin; refine wpList_copy_runI _ rfl _ _ 26 26 rfl _ _ rfl rfl (hcp2 _ _) ?_)
  go_ret
  exact ⟨R2, rfl, hgr, hlast, hR2l, fin⟩
set_option maxHeartbeats 4000000 in
set_option maxRecDepth 100000 in
theorem Xc.ins_end (A : Option Addr) (n c vb m vc : Nat) (w w1 : World) (v' : Value) (hm : 0 < m) (hnc : n ≤ c) (hcm : c ≤ maxLen) (hA : A = none → n = 0 ∧ c = 0) (hsp : ∀ a, A = some a → a = ⟨a.block, 0, none⟩)
    (hr : ∀ ty, (Builtin.append_ #[26, 26] ty #[.slice A n c, .slice (some ⟨vb, 0, none⟩) m vc]).run Tryz.prog w = .ok v' w1) :
    Calls Tryz.prog 224 #[.slice A n c, .int .i64 n, .slice (some ⟨vb, 0, none⟩) m vc] w fun e w' => e = .returned v' ∧ w' = w1 := by
  have mixed := Xc.mixed
  have hz1 : ¬ ((m : Int) = 0) := by omega
  obtain ⟨z, hz, hzc⟩ := Xc.info113
  obtain ⟨i0, hi0, hz0, hzs, hzb⟩ := info_parts hz
  have hsz : (Tryz.prog.info? 113).map (·.size) = some 11 := by rw [hi0]; simp [hzs]
  have hso : ∀ w, (Go.sizeOf 113).run Tryz.prog w = .ok 11 w := fun w => by simp [Go.sizeOf, typeInfo, hi0, hzs]
  cases A with
  | none =>
    obtain ⟨rfl, rfl⟩ := hA rfl
    clear hA hsp
    go_enter Tryz.func224, Tryz.ntmps224
    go_wp2_with (at_builtin; refine Lib.wpList_append_run _ rfl _ _ _ _ rfl _ _ rfl rfl _ _ (hr _) ?_)
    go_ret
    exact ⟨rfl, rfl⟩
  | some a =>
    obtain ⟨b, off, sp⟩ := a
    have := hsp _ rfl
    injection this with h1 h2 h3
    subst h2; subst h3
    clear hA hsp h1
    go_enter Tryz.func224, Tryz.ntmps224
    go_wp2_with (at_builtin; refine Lib.wpList_append_run _ rfl _ _ _ _ rfl _ _ rfl rfl _ _ (hr _) ?_)
    all_goals (go_ret; exact ⟨rfl, rfl⟩)
theorem Xc.ins_all (vX vY : Value) (n m i : Nat) (cX cY : List Value) (w : World) (hX : w.ownsRow 0 113 11 vX n cX) (hY : w.ownsRow 0 113 11 vY m cY) (hne : ∀ k, vX.ownBlock = some k → vY.ownBlock = some k → False) (hi : i ≤ n) (hm : 0 < m) (hbig : (n + m) * 104 ≤ 140737488355328)
    (h1X : ∀ v ∈ cX, v.oneCell' = true) (h1Y : ∀ v ∈ cY, v.oneCell' = true) :
    Calls Tryz.prog 224 #[vX, .int .i64 i, vY] w fun e w' => ∃ v', e = .returned v' ∧ w.grownBy w' vX.ownBlock ∧ w'.ownsRow 0 113 11 v' (n + m) (cX.take (i * 11) ++ cY ++ cX.drop (i * 11)) ∧ (v'.ownBlock = vX.ownBlock ∨ v'.ownBlock = some w.heap.size) := by
  obtain ⟨z, hz, hzc⟩ := Xc.info113
  obtain ⟨i0, hi0, hz0, hzs, hzb⟩ := info_parts hz
  have hXl := hX.1
  have hYl := hY.1
  have cell : ∀ (g : Nat) (cur : Array Value) (xs : List Value) (k : Nat), w.heap[g]? = some (.cells cur 113 (0, 0)) → cur.toList.take k = xs → ∀ j v, xs[j]? = some v → w.cell? ⟨g, j, none⟩ = some v := by
    intro g cur xs k hg hx j v hj
    rw [← hx, List.getElem?_take] at hj
    split at hj
    · have : cur[j]? = some v := by rw [← Array.getElem?_toList]; exact hj
      simp [World.cell?, hg, this]
    · cases hj
  rcases hY.2 with ⟨_, h0⟩ | ⟨vb, vc, vcur, rfl, _, hvh, hvn, hvm, hvz, hvt⟩
  · omega
  have hvs := cell vb vcur cY _ hvh hvt
  rcases Nat.lt_or_ge i n with hlt | hge
  · rcases hX.2 with ⟨_, h0⟩ | ⟨b, c, cur, rfl, _, hbh, hnc, hcm, hcz, hct⟩
    · omega
    have hcs := cell b cur cX _ hbh hct
    have hvb : vb ≠ b := fun e => hne b rfl (by rw [e]; rfl)
    rcases Nat.lt_or_ge c (n + m) with hroom | hroom
    · refine (Xc.ins_grow b n c i vb m vc cX cY w hlt hm hnc hroom hbig hXl hYl hcs hvs h1X h1Y).mono ?_
      rintro e w' ⟨G, cur', rfl, g1, g2, g3, g4, g5, g6⟩
      refine ⟨_, rfl, ⟨g3.os, g3.tape, g3.output, g3.size, fun k hk _ => g3.block k hk (by simp)⟩, ⟨?_, .inr ⟨w.heap.size, G, cur', rfl, Nat.zero_le _, g4, g1, g2, g5, g6⟩⟩, .inr rfl⟩
      rw [List.length_append, List.length_append, List.length_take, List.length_drop]
      omega
    · refine (Xc.ins_shift b n c i vb m vc cX cY cur vcur 113 w hlt hm hroom hcm hvb hXl hYl hbh hcz hct hvh hcs hvs h1X h1Y).mono ?_
      rintro e w' ⟨cur', rfl, g3, g4, g5, g6⟩
      refine ⟨_, rfl, g3, ⟨?_, .inr ⟨b, c, cur', rfl, Nat.zero_le _, g4, hroom, hcm, g5, g6⟩⟩, .inl rfl⟩
      rw [List.length_append, List.length_append, List.length_take, List.length_drop]
      omega
  · obtain rfl : i = n := by omega
    obtain ⟨v', w1, hr, hown, hg, _, hat⟩ := run_append_own_at (P := Tryz.prog) (w := w) 0 26 26 113 i0 z 11 104 Tryz.underlying26 hi0 hz0 hzs hzb hzc (by decide) vX i cX hX ⟨vb, 0, none⟩ m vc cY hYl (fun j u hj => by rw [Addr.add_lit, Nat.zero_add]; exact hvs j u hj) h1Y (by unfold maxLen; omega) (by omega) (Nat.zero_le _)
    have fin : Calls Tryz.prog 224 #[vX, .int .i64 i, .slice (some ⟨vb, 0, none⟩) m vc] w fun e w' => e = .returned v' ∧ w' = w1 := by
      have hr' : ∀ ty, (Builtin.append_ #[26, 26] ty #[vX, .slice (some ⟨vb, 0, none⟩) m vc]).run Tryz.prog w = .ok v' w1 := fun ty => by
        have : (Builtin.append_ #[26, 26] ty #[vX, .slice (some ⟨vb, 0, none⟩) m vc]) = (Builtin.append_ #[26, 26] 26 #[vX, .slice (some ⟨vb, 0, none⟩) m vc]) := rfl
        rw [this]; exact hr
      rcases hX.2 with ⟨rfl, h0⟩ | ⟨b, c, cur, rfl, _, hbh, hnc, hcm, hcz, hct⟩
      · subst h0
        exact Xc.ins_end none 0 0 vb m vc w w1 v' hm (Nat.le_refl _) (Nat.zero_le _) (fun _ => ⟨rfl, rfl⟩) (fun a h => by cases h) hr'
      · exact Xc.ins_end (some ⟨b, 0, none⟩) i c vb m vc w w1 v' hm hnc hcm (fun h => by cases h) (fun a h => by cases h; rfl) hr'
    refine fin.mono ?_
    rintro e w' ⟨rfl, rfl⟩
    refine ⟨v', rfl, hg, ?_, hat⟩
    rw [List.take_of_length_le (by omega), List.drop_of_length_le (by omega), List.append_nil]
    exact hown
section
attribute [local go_sem] Oper.semAt_some
def Xc.upto {α : Type} (f : Nat → α) (k : Nat) : List α := (List.range k).map f
theorem Xc.upto_succ {α : Type} (f : Nat → α) (k : Nat) : Xc.upto f (k + 1) = Xc.upto f k ++ [f k] := by simp [Xc.upto, List.range_succ]
theorem Xc.upto_length {α : Type} (f : Nat → α) (k : Nat) : (Xc.upto f k).length = k := by simp [Xc.upto]
theorem Xc.upto_all (zs : List Int) : Xc.upto (fun j => zs[j]?.getD 0) zs.length = zs := by
  apply List.ext_getElem
  · simp [Xc.upto]
  · intro i h1 h2
    simp [Xc.upto, h2]
theorem Xc.upto_take (zs : List Int) {k : Nat} (hk : k ≤ zs.length) : Xc.upto (fun j => zs[j]?.getD 0) k = zs.take k := by
  apply List.ext_getElem
  · simp [Xc.upto, hk]
  · intro i h1 h2
    have : i < zs.length := by simp [Xc.upto] at h1; omega
    simp [Xc.upto, this]
set_option maxRecDepth 100000 in
set_option maxHeartbeats 2000000 in
theorem Xc.values1_in (F : Fence) (n : Nat) (h7 : F.fn 332) (hro : F.round = none) (hn : 1 ≤ n) (l Bs n₀ b off len cap : Nat) (zs : List Int) (hreach : len * 8 ≤ 140737488351232) (hb : b < n₀) (J Jx : List Int → World → Prop)
    (hY : ∀ pre x W, J pre W → pre.length < len → YieldAt F (n - 1) Tryz.prog l #[.int .i64 x] W fun e W' =>
      (e = .returned (.bool true) ∧ J (pre ++ [x]) W' ∧ Below n₀ W W') ∨ (e = .returned (.bool false) ∧ Jx (pre ++ [x]) W'))
    (W : World) (hBs : W.cell? ⟨Bs, 0, none⟩ = some (.slice (some ⟨b, off, none⟩) len cap)) (hc : ∀ j, j < len → W.cell? ⟨b, off + j, none⟩ = some (.int .i64 (zs[j]?.getD 0))) (h0 : J [] W) :
    CallsIn F n Tryz.prog 332 #[.func (.yield l) #[] #[], .pointer (some ⟨Bs, 0, none⟩)] W fun e W' => (∃ v, e = .returned v) ∧
      ((∃ ys, ys = Xc.upto (fun j => zs[j]?.getD 0) len ∧ J ys W') ∨ (∃ pre, (∃ k, k ≤ len ∧ pre = Xc.upto (fun j => zs[j]?.getD 0) k) ∧ Jx pre W')) := by
  refine callsIn_of_wp Tryz.func332 rfl h7 ?_ hro
  simp only [Tryz.ntmps332, List.size_toArray, List.length_cons, List.length_nil, Nat.reduceAdd, Nat.reduceSub, Array.replicate_succ, Array.replicate_zero, List.push_toArray, List.append_toArray, List.nil_append, List.cons_append]
  gi_wp2
  gi_loopw [7] (fun i wr => ∃ k : Nat, k ≤ len ∧ i = .int .i64 k ∧ J (Xc.upto (fun j => zs[j]?.getD 0) k) wr ∧ Below n₀ W wr)
    (fun i _ => len - (intOf i).toNat)
  case atStart => exact ⟨0, Nat.zero_le _, rfl, h0, Below.refl _ _⟩
  case round =>
    obtain ⟨k, hk, rfl, hJs, hnx⟩ := hrel
    have hcx : k < len → wr.cell? ⟨b, off + k, none⟩ = some (.int .i64 (zs[k]?.getD 0)) := fun h => (hnx.cell (p := ⟨b, off + k, none⟩) hb).trans (hc k h)
    by_cases hlt : k < len
    · obtain ⟨fn, tmps, assign, body, hy, hR⟩ := hY _ (zs[k]?.getD 0) wr hJs (by rw [Xc.upto_length]; exact hlt)
      have hcx' := hcx hlt
      gi_wp2
      refine hR.mono ?_
      rintro e W3 (⟨rfl, hJ3, hk3⟩ | ⟨rfl, hJx3⟩)
      · gi_wp2
        go_roundw
        case rel => exact ⟨k + 1, by omega, by simp, by rw [Xc.upto_succ]; exact hJ3, hnx.trans hk3⟩
        case measure => simp [intOf]; omega
      · gi_wp2
        refine bodyPost_ret (results_none rfl _ _ _) rfl ?_
        exact ⟨⟨_, rfl⟩, .inr ⟨_, ⟨k + 1, by omega, (Xc.upto_succ _ _).symm⟩, hJx3⟩⟩
    · obtain rfl : k = len := by omega
      gi_wp2
      go_end0
      exact ⟨⟨_, rfl⟩, .inl ⟨_, rfl, hJs⟩⟩
set_option maxRecDepth 100000 in
set_option maxHeartbeats 1000000 in
theorem Xc.values1_nil_in (F : Fence) (n : Nat) (h7 : F.fn 332) (hro : F.round = none) (l Bs c : Nat) (A : Option Addr) (J : List Int → World → Prop) (W : World) (hBs : W.cell? ⟨Bs, 0, none⟩ = some (.slice A 0 c)) (h0 : J [] W) :
    CallsIn F n Tryz.prog 332 #[.func (.yield l) #[] #[], .pointer (some ⟨Bs, 0, none⟩)] W fun e W' => (∃ v, e = .returned v) ∧ J [] W' := by
  refine callsIn_of_wp Tryz.func332 rfl h7 ?_ hro
  simp only [Tryz.ntmps332, List.size_toArray, List.length_cons, List.length_nil, Nat.reduceAdd, Nat.reduceSub, Array.replicate_succ, Array.replicate_zero, List.push_toArray, List.append_toArray, List.nil_append, List.cons_append]
  gi_wp2
  gi_loopw [7] (fun i wr => i = .int .i64 0 ∧ J [] wr) (fun _ _ => 0)
  case atStart => exact ⟨rfl, h0⟩
  case round =>
    obtain ⟨rfl, hJs⟩ := hrel
    gi_wp2
    go_end0
    exact ⟨⟨_, rfl⟩, hJs⟩
def Xc.Ints (n₀ : Nat) (W : World) (sv : Value) (zs : List Int) : Prop :=
  (∃ A c, sv = .slice A 0 c ∧ zs = []) ∨ ∃ b off cap, sv = .slice (some ⟨b, off, none⟩) zs.length cap ∧ b < n₀ ∧ ∀ j, j < zs.length → W.cell? ⟨b, off + j, none⟩ = some (.int .i64 (zs[j]?.getD 0))
theorem Xc.Ints.below {n₀ : Nat} {A B : World} (h : Below n₀ A B) {sv : Value} {zs : List Int} : Xc.Ints n₀ A sv zs → Xc.Ints n₀ B sv zs
  | .inl e => .inl e
  | .inr ⟨b, off, cap, e, hb, hc⟩ => .inr ⟨b, off, cap, e, hb, fun j hj => (h.cell (p := ⟨b, off + j, none⟩) hb).trans (hc j hj)⟩
theorem Xc.values_stops (F : Fence) (n : Nat) (h7 : F.fn 332) (hro : F.round = none) (hn : 1 ≤ n) (Bs n₀ : Nat) (sv : Value) (zs : List Int) (hreach : zs.length * 8 ≤ 140737488351232) (w : World) (hBs : Bs < w.heap.size) (hn₀ : n₀ ≤ w.heap.size)
    (hc : w.cell? ⟨Bs, 0, none⟩ = some sv) (hI : Xc.Ints n₀ w sv zs) :
    SeqStopsK F n Tryz.prog 332 #[.pointer (some ⟨Bs, 0, none⟩)] (fun x : Int => #[Value.int .i64 x]) (Below n₀) (fun ys => ys = zs) (fun pre => pre <+: zs) zs.length w := fun l J Jx W hW _ _ hY h0 => by
  have hc' := (hW.cell (p := ⟨Bs, 0, none⟩) hBs).trans hc
  rcases hI.below (hW.mono hn₀) with ⟨A, c, rfl, rfl⟩ | ⟨b, off, cap, rfl, hb, hcs⟩
  · exact (Xc.values1_nil_in F n h7 hro l Bs c A J W hc' h0).mono fun e W' ⟨he, hj⟩ => ⟨he, .inl ⟨_, rfl, hj⟩⟩
  · refine (Xc.values1_in F n h7 hro hn l Bs n₀ b off zs.length cap zs hreach hb J Jx hY W hc' hcs h0).mono ?_
    rintro e W' ⟨he, ⟨ys, rfl, hj⟩ | ⟨pre, ⟨k, hk, rfl⟩, hj⟩⟩
    · exact ⟨he, .inl ⟨_, Xc.upto_all zs, hj⟩⟩
    · exact ⟨he, .inr ⟨_, by rw [Xc.upto_take zs hk]; exact List.take_prefix _ _, hj⟩⟩
set_option maxRecDepth 100000 in
set_option maxHeartbeats 2000000 in
theorem Xc.appendSeq_in (F : Fence) (n : Nat) (h3 : F.fn 356) (h5 : F.fn 332) (hro : F.round = none) (hn : 3 ≤ n) (Bs : Nat) (sv : Value) (zs : List Int) (hreach : zs.length * 8 ≤ 140737488351232) (w : World) (hBs : Bs < w.heap.size) (hcB : w.cell? ⟨Bs, 0, none⟩ = some sv) (hI : Xc.Ints w.heap.size w sv zs) :
    CallsIn F n Tryz.prog 356 #[.slice none 0 0, .func (.func 332) #[] #[.pointer (some ⟨Bs, 0, none⟩)]] w fun e W' => ∃ v, e = .returned v ∧ W'.ownsRow w.heap.size 3 1 v zs.length (zs.map (Value.int .i64)) ∧ (v = .slice none 0 0 ↔ zs = []) ∧ Below w.heap.size w W' := by
  have h1 : 1 ≤ n := by omega
  obtain ⟨i0, hi, hz0, hz1, hz2⟩ := info_parts Xc.info3
  refine callsIn_of_wp_marks Tryz.func356 rfl h3 ?_ hro
  simp only [Tryz.ntmps356, List.size_toArray, List.length_cons, List.length_nil, Nat.reduceAdd, Nat.reduceSub, Array.replicate_succ, Array.replicate_zero, List.push_toArray, List.append_toArray, List.nil_append, List.cons_append]
  gi_wp2
  have bO := Boxed.new w 38 (.slice none 0 0)
  have hB0 : Below w.heap.size w (w.alloc (.cells #[.slice none 0 0] 38)) := (Below.refl _ w).alloc (Nat.le_refl _) _
  refine wpIn_rangeFunc_ownG hro h1 (gf := 332) (lb := #[.pointer (some ⟨Bs, 0, none⟩)]) rfl h5 (enters_of Tryz.func332 (by kernel_rfl) rfl)
    (Xc.values_stops F (n - 1) h5 hro (by omega) Bs w.heap.size sv zs hreach (w.alloc (.cells #[.slice none 0 0] 38)) (by simp; omega) (by simp) ((hB0.cell (p := ⟨Bs, 0, none⟩) hBs).trans hcB) (hI.below hB0)) belowK_t (belowK_b (by simp)) (Below.refl _ _) (fun _ => rfl)
    (fun pre W => (∃ v, Boxed W w.heap.size 38 v ∧ W.ownsRow w.heap.size 3 1 v pre.length (pre.map (Value.int .i64)) ∧ (v = .slice none 0 0 ↔ pre = [])) ∧ Below w.heap.size w W)
    (fun _ _ _ => False)
    (OwnFrom.and (Own.from (holdsRow_own w.heap.size w.heap.size 38 3 1 (fun pre => pre.length) (fun pre => pre.map (Value.int .i64)) (fun pre v => v = .slice none 0 0 ↔ pre = [])) _) (ownFrom_below (Nat.le_refl _) (by simp)))
    (fun _ _ _ _ _ hs _ _ => hs)
    ⟨⟨_, bO, World.ownsRow_nil _ _ _ _, by simp⟩, hB0⟩
    (fun x => { tmps := #[.slice none 0 0, .func (.func 332) #[] #[.pointer (some ⟨Bs, 0, none⟩)], .pointer (some ⟨w.heap.size, 0, none⟩), undef, .slice none 0 0, .int .i64 x, .func (.func 332) #[] #[.pointer (some ⟨Bs, 0, none⟩)], .int .i64 x, undef, undef, undef, undef, undef], defers := [] }) ?assign ?body ?done ?stop
  case assign =>
    intro l x W K hK
    gi_wp2
    exact hK
  case body =>
    rintro l pre x W ⟨⟨v, hv, hrow, hnil⟩, hB⟩ hlt
    have hc := hv.cell
    gi_wp2_with (gi_at_builtin; refine wpListIn_append_own _ rfl _ _ 38 rfl w.heap.size 3 i0 (.int .i64 0) 1 8 Tryz.underlying38 hi hz0 hz1 hz2 rfl (by decide) _ _ _ rfl (hrow.alloc _) ⟨W.heap.size, 0, none⟩ 1 1 [.int .i64 x] rfl rfl (cell_one_new _ _ _) (by simp [Value.oneCell']) (by unfold maxLen; omega) (by omega) (by have := hB.size; simp; omega) ?_; intro v' w1 hown' hgrow _; obtain ⟨g', cap', rfl⟩ := ownsRow_succ hown'; obtain ⟨hv1, hv2, hr2, hk2, hb2⟩ := hv.appended (by decide) hrow hB.size (Nat.le_refl _) hown' hgrow; have hc1 := hv1.cell; have hf1 := hv1.frozen)
    exact ⟨hk2.from _, hb2, ⟨_, hv2, by simpa using hr2, by simp⟩, hB.trans hb2⟩
  case done =>
    rintro D ys W hD rfl ⟨⟨v, hv, hrow, hnil⟩, hB⟩ hK
    have hc := hv.cell
    gi_wp2
    refine ⟨by simp, .inl ⟨_, _, rfl, run_takeDeferred hK, ?_⟩⟩
    exact ⟨_, results_tmp rfl _ _ _, v, rfl, ownsRow_putObj hrow _ hK rfl, hnil, hB.trans (belowK_b (w := w) (Nat.le_refl _) W D _ _ (by simp at hD; omega) hK rfl rfl)⟩
  case stop =>
    rintro D c pre W _ _ h _
    exact h.elim
set_option maxHeartbeats 1000000 in
theorem Xc.collect_in (F : Fence) (n : Nat) (h2 : F.fn 330) (h3 : F.fn 356) (h5 : F.fn 332) (hro : F.round = none) (hn : 4 ≤ n) (Bs : Nat) (sv : Value) (zs : List Int) (hreach : zs.length * 8 ≤ 140737488351232) (w : World) (hBs : Bs < w.heap.size) (hcB : w.cell? ⟨Bs, 0, none⟩ = some sv) (hI : Xc.Ints w.heap.size w sv zs) :
    CallsIn F n Tryz.prog 330 #[.func (.func 332) #[] #[.pointer (some ⟨Bs, 0, none⟩)]] w fun e W' => ∃ v, e = .returned v ∧ W'.ownsRow w.heap.size 3 1 v zs.length (zs.map (Value.int .i64)) ∧ (v = .slice none 0 0 ↔ zs = []) ∧ Below w.heap.size w W' := by
  have h1 : 1 ≤ n := by omega
  refine callsIn_of_wp Tryz.func330 rfl h2 ?_ hro
  simp only [Tryz.ntmps330, List.size_toArray, List.length_cons, List.length_nil, Nat.reduceAdd, Nat.reduceSub, Array.replicate_succ, Array.replicate_zero, List.push_toArray, List.append_toArray, List.nil_append, List.cons_append]
  gi_wp2_with (gi_at_call 356; refine (Xc.appendSeq_in F (n - 1) h3 h5 hro (by omega) Bs sv zs hreach w hBs hcB hI).mono ?_; rintro e W ⟨v, rfl, hrow, hnil, hb⟩)
  go_ret
  exact ⟨v, rfl, hrow, hnil, hb⟩
set_option maxHeartbeats 1000000 in
theorem Xc.sorted_in (F : Fence) (n : Nat) (h6 : F.fn 286) (h2 : F.fn 330) (h9 : F.fn 331) (h3 : F.fn 356) (h5 : F.fn 332) (hro : F.round = none) (hn : 5 ≤ n)
    (hsort : (∀ (blk off cap : Nat) (ss : List Int) (W : World), Holds (Value.int .i64) W blk off ss.toArray → blk < W.heap.size → ss.length < 4611686018427387904 →
    CallsIn F (n - 1) Tryz.prog 331 #[.slice (some ⟨blk, off, none⟩) ss.length cap] W fun e w' => e = .returned (.tuple #[]) ∧ ∃ k os, w' = grow (putRow (Value.int .i64) (Sort.ahead W k) blk off (ss.mergeSort fun x y => decide (x ≤ y)).toArray) os) ∧
  (∀ (p : Option Addr) (cap : Nat) (W : World), CallsIn F (n - 1) Tryz.prog 331 #[.slice p 0 cap] W fun e w' => e = .returned (.tuple #[]) ∧ w' = W))
    (Bs : Nat) (sv : Value) (zs : List Int) (hreach : zs.length * 8 ≤ 140737488351232) (w : World) (hBs : Bs < w.heap.size) (hcB : w.cell? ⟨Bs, 0, none⟩ = some sv) (hI : Xc.Ints w.heap.size w sv zs) :
    CallsIn F n Tryz.prog 286 #[.func (.func 332) #[] #[.pointer (some ⟨Bs, 0, none⟩)]] w fun e W' => ∃ v, e = .returned v ∧ W'.ownsRow w.heap.size 3 1 v zs.length ((zs.mergeSort (fun x y => decide (x ≤ y))).map (Value.int .i64)) ∧ Below w.heap.size w W' := by
  have h1 : 1 ≤ n := by omega
  refine callsIn_of_wp Tryz.func286 rfl h6 ?_ hro
  simp only [Tryz.ntmps286, List.size_toArray, List.length_cons, List.length_nil, Nat.reduceAdd, Nat.reduceSub, Array.replicate_succ, Array.replicate_zero, List.push_toArray, List.append_toArray, List.nil_append, List.cons_append]
  gi_wp2_with (gi_at_call 330; refine (Xc.collect_in F (n - 1) h2 h3 h5 hro (by omega) Bs sv zs hreach w hBs hcB hI).mono ?_; rintro e W ⟨v, rfl, hrow, hnil, hb⟩)
  rcases hrow.2 with ⟨rfl, hz⟩ | ⟨gb, cap, cur, rfl, hbase, hgb, r1, r2, r3, r4⟩
  · have hss : zs = [] := List.eq_nil_of_length_eq_zero hz
    subst hss
    gi_wp2_with (gi_at_call 331; refine (hsort.2 none 0 W).mono ?_; rintro e w' ⟨rfl, rfl⟩)
    go_ret
    exact ⟨.slice none 0 0, rfl, by simpa using hrow, hb⟩
  · have hH : Holds (Value.int .i64) W gb 0 zs.toArray := holds_of_block_i hgb (by simpa using r4)
    have hgl : gb < W.heap.size := (Array.getElem?_eq_some_iff.1 hgb).1
    have hsz : zs.length < 4611686018427387904 := by omega
    have cS := hsort.1 gb 0 cap zs W hH hgl hsz
    gi_wp2_with (gi_at_call 331; refine cS.mono ?_; rintro e w' ⟨rfl, nn, os, rfl⟩)
    go_ret
    exact ⟨_, rfl, ownsRow_sorted_i (by simp) hbase hgb r1 r2 r3, hb.grown (grownBy_sorted_i _) hb.size (fun j hj => by cases hj; exact hbase)⟩
end
end Go.Proofs
