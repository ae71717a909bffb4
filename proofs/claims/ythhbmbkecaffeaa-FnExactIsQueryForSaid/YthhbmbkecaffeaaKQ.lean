/- Kind Q: shape, size, copy, comparison. Written by a program. -/
import Derived.Test.YthhbmbkecaffeaaKAs
import Derived.Deep.RegionHeld3
namespace Go.Proofs.Ythhbmbkecaffeaa
open Go.RowKit
set_option linter.unusedVariables false
set_option linter.unusedSimpArgs false
set_option synthInstance.maxSize 2000
set_option synthInstance.maxHeartbeats 400000

abbrev DQ := Int × List DA
def rQ : RS DQ := R.pair R.int rAs
def oQ : OS DQ := O.pair O.int oAs
theorem reads_Q : Reads oQ rQ := Reads.pair Reads.int reads_As
theorem rQ_open {w : World} {cs : List Value} {x : DQ} (h : rQ.rep w cs x) : ∃ ub1 un1 uc1, cs = [.int .i64 x.1, .slice ub1 un1 uc1] ∧ I64 x.1 ∧ rAs.rep w [.slice ub1 un1 uc1] x.2 := by
  obtain ⟨c0a, c0b, rfl, ⟨rfl, hi0⟩, hr1⟩ := h
  obtain ⟨ub1, un1, uc1, rfl⟩ := rAs_form hr1
  exact ⟨_, _, _, rfl, hi0, hr1⟩
theorem rQ_form {w : World} {cs : List Value} {x : DQ} (h : rQ.rep w cs x) : ∃ ub1 un1 uc1, cs = [.int .i64 x.1, .slice ub1 un1 uc1] := by
  obtain ⟨ub1, un1, uc1, h1, _⟩ := rQ_open h
  exact ⟨_, _, _, h1⟩
theorem rQ_mk {w : World} {ub1 : Option Addr} {un1 uc1 : Nat} {x : DQ} (h0 : I64 x.1) (h1 : rAs.rep w [.slice ub1 un1 uc1] x.2) : rQ.rep w [.int .i64 x.1, .slice ub1 un1 uc1] x :=
  ⟨[.int .i64 x.1], [.slice ub1 un1 uc1], rfl, ⟨rfl, h0⟩, h1⟩
theorem oQ_form {lo hi : Nat} {w : World} {cs : List Value} {x : DQ} (h : Own oQ lo hi w cs x) : ∃ ub1 un1 uc1, cs = [.int .i64 x.1, .slice ub1 un1 uc1] := rQ_form (h.rd reads_Q)

theorem oQ_mk {lo hi l1 m1 : Nat} {w : World} {ub1 : Option Addr} {un1 uc1 : Nat} {x : DQ} (hi0 : I64 x.1) (ho1 : Own oAs l1 m1 w [.slice ub1 un1 uc1] x.2) (a1 : lo ≤ l1) (b1 : m1 ≤ hi)  : Own oQ lo hi w [.int .i64 x.1, .slice ub1 un1 uc1] x := by
  obtain ⟨f1, r1, n1, q1⟩ := ho1
  refine ⟨([] ++ f1), ⟨[.int .i64 x.1], [.slice ub1 un1 uc1], [], f1, rfl, rfl, ⟨rfl, hi0, rfl⟩, r1⟩, ?_, ?_⟩
  · try simp only [List.nil_append, List.append_nil]
    exact n1
  · intro p hp
    try simp only [List.nil_append, List.append_nil, List.mem_append] at hp
    have := q1 p hp; omega

def bulk_Q (x : DQ) : Nat := bulk_As x.2

set_option maxHeartbeats 1000000 in
theorem sz_Q (cs : List Value) (x : DQ) (left : Int) (w : World) (h : rQ.rep w cs x) (h0 : 0 ≤ left) (h1 : left ≤ 1048576) :
    Calls Try.prog 12 #[.agg cs.toArray, .int .i64 left] w fun e w' => e = .returned (.int .i64 (szR left (bulk_Q x))) ∧ Below w.heap.size w w' := by
  obtain ⟨ub1, un1, uc1, rfl, g0, g1⟩ := rQ_open h
  clear h
  have HE0 : Hid (szR left (bulk_Q x) = szR left (bulk_As x.2)) := rfl
  go_enter Try.func12, Try.ntmps12
  obtain ⟨w1, hw1⟩ : ∃ W, W = w.alloc (.cells #[.int .i64 x.1, .slice ub1 un1 uc1] 24) := ⟨_, rfl⟩
  have z1 : Below w.heap.size w w1 := by rw [hw1]; exact (Below.refl _ _).alloc (Nat.le_refl _) _
  have s1 : w1.heap.size = w.heap.size + 1 := by rw [hw1]; simp
  have bp_0 : w1.cell? ⟨w.heap.size, 0, none⟩ = some (.int .i64 x.1) := by rw [hw1]; exact box_cell (Below.refl _ _) rfl
  have bp_1 : w1.cell? ⟨w.heap.size, 1, none⟩ = some (.slice ub1 un1 uc1) := by rw [hw1]; exact box_cell (Below.refl _ _) rfl
  have hb1 := z1
  go_wp2_with fail
  rw [← hw1]
  clear hw1
  refine (sz_As _ (x.2) _ _ (rAs.mono g1 hb1) (by omega) (by omega)).mono ?_
  rintro e w2 ⟨rfl, z2⟩
  have s2 := z2.size
  have hb2 := on hb1 z2
  replace bp_0 := (z2.cell (p := ⟨w.heap.size, 0, none⟩) (by simp only []; omega)).trans bp_0
  replace bp_1 := (z2.cell (p := ⟨w.heap.size, 1, none⟩) (by simp only []; omega)).trans bp_1
  obtain ⟨q1, hq1⟩ : ∃ q, q = szR left (bulk_As (x.2)) := ⟨_, rfl⟩
  rw [← hq1]
  have hc1 := szR_cases left (bulk_As (x.2))
  rw [← hq1] at hc1
  clear hq1
  rcases hc1 with ⟨rfl, l1⟩ | ⟨hq1, l1⟩
  · have HE := Lib.hid (HE0.out.trans (szR_no0 l1))
    clear l1
    go_wp2_with fail
    go_ret
    exact ⟨ret_int HE.out.symm, hb2⟩
  have HE1 := Lib.hid (HE0.out.trans ((szR_yes l1).trans (by rw [hq1])) : szR left (bulk_Q x) = q1)
  have p1 : 0 ≤ q1 := by omega
  have p1b : q1 ≤ 1048576 := by omega
  clear hq1 l1
  go_wp2_with fail
  go_ret
  exact ⟨ret_int HE1.out.symm, hb2⟩

set_option maxHeartbeats 2000000 in
theorem to_Q (cs : List Value) (x : DQ) (w : World) (h : rQ.rep w cs x) (hn : bulk_Q x ≤ 1048576) :
    Calls Try.prog 14 #[.agg cs.toArray] w fun e w' => ∃ us, e = .returned (.agg us.toArray) ∧ Own oQ w.heap.size w'.heap.size w' us x ∧ Below w.heap.size w w' := by
  obtain ⟨ub1, un1, uc1, rfl, g0, g1⟩ := rQ_open h
  clear h
  unfold bulk_Q at hn
  have hn1 : bulk_As (x.2) ≤ 1048576 := by omega
  clear hn
  go_enter Try.func14, Try.ntmps14
  obtain ⟨W0, hW0⟩ : ∃ W, W = ((w.alloc (.cells #[.int .i64 x.1, .slice ub1 un1 uc1] 24)).alloc (.cells #[.int .i64 0, .slice none 0 0] 29)).alloc (.cells #[.int .i64 x.1, .slice none 0 0] 29) := ⟨_, rfl⟩
  have hB0 : Below w.heap.size w W0 := by rw [hW0]; exact (((Below.refl _ _).alloc (Nat.le_refl _) _).alloc (by simp) _).alloc (by simp <;> omega) _
  have t0 : W0.heap.size = w.heap.size + 1 + 1 + 1 := by rw [hW0]; simp
  have bp_0 : W0.cell? ⟨w.heap.size, 0, none⟩ = some (.int .i64 x.1) := by rw [hW0]; simp [go_sem, World.cell?_alloc_past]
  have bp_1 : W0.cell? ⟨w.heap.size, 1, none⟩ = some (.slice ub1 un1 uc1) := by rw [hW0]; simp [go_sem, World.cell?_alloc_past]
  have br_0 : W0.cell? ⟨w.heap.size + 1, 0, none⟩ = some (.int .i64 0) := by rw [hW0]; simp [go_sem, World.cell?_alloc_past]
  have fr_0 : W0.frozen? ⟨w.heap.size + 1, 0, none⟩ = false := by rw [hW0]; simp [go_sem, World.frozen?_alloc_past]
  have br_1 : W0.cell? ⟨w.heap.size + 1, 1, none⟩ = some (.slice none 0 0) := by rw [hW0]; simp [go_sem, World.cell?_alloc_past]
  have fr_1 : W0.frozen? ⟨w.heap.size + 1, 1, none⟩ = false := by rw [hW0]; simp [go_sem, World.frozen?_alloc_past]
  have bo_0 : W0.cell? ⟨w.heap.size + 1 + 1, 0, none⟩ = some (.int .i64 x.1) := by rw [hW0]; simp [go_sem, World.cell?_alloc_past]
  have fo_0 : W0.frozen? ⟨w.heap.size + 1 + 1, 0, none⟩ = false := by rw [hW0]; simp [go_sem, World.frozen?_alloc_past]
  have bo_1 : W0.cell? ⟨w.heap.size + 1 + 1, 1, none⟩ = some (.slice none 0 0) := by rw [hW0]; simp [go_sem, World.cell?_alloc_past]
  have fo_1 : W0.frozen? ⟨w.heap.size + 1 + 1, 1, none⟩ = false := by rw [hW0]; simp [go_sem, World.frozen?_alloc_past]
  go_wp2_with fail
  rw [← hW0]
  clear hW0
  refine (to_As _ (x.2) _ (rAs.mono g1 hB0) hn1).mono ?_
  rintro e w1 ⟨a1, rfl, ho1, z1⟩
  have s1 := z1.size
  obtain ⟨ab1, an1, ac1, rfl⟩ := oAs_form1 ho1
  have q1 := on hB0 z1
  replace bp_0 := (z1.cell (p := ⟨w.heap.size, 0, none⟩) (by simp only []; omega)).trans bp_0
  replace bp_1 := (z1.cell (p := ⟨w.heap.size, 1, none⟩) (by simp only []; omega)).trans bp_1
  replace br_0 := (z1.cell (p := ⟨w.heap.size + 1, 0, none⟩) (by simp only []; omega)).trans br_0
  replace fr_0 := (z1.frozen (p := ⟨w.heap.size + 1, 0, none⟩) (by simp only []; omega)).trans fr_0
  replace br_1 := (z1.cell (p := ⟨w.heap.size + 1, 1, none⟩) (by simp only []; omega)).trans br_1
  replace fr_1 := (z1.frozen (p := ⟨w.heap.size + 1, 1, none⟩) (by simp only []; omega)).trans fr_1
  replace bo_0 := (z1.cell (p := ⟨w.heap.size + 1 + 1, 0, none⟩) (by simp only []; omega)).trans bo_0
  replace fo_0 := (z1.frozen (p := ⟨w.heap.size + 1 + 1, 0, none⟩) (by simp only []; omega)).trans fo_0
  replace bo_1 := (z1.cell (p := ⟨w.heap.size + 1 + 1, 1, none⟩) (by simp only []; omega)).trans bo_1
  replace fo_1 := (z1.frozen (p := ⟨w.heap.size + 1 + 1, 1, none⟩) (by simp only []; omega)).trans fo_1
  go_wp2_with fail
  refine bodyPost_ret (v := .agg #[.int .i64 x.1, .slice ab1 an1 ac1]) (by simp [results, Try.results14, go_sem, br_0, br_1, bo_0, bo_1, fr_0, fr_1, fo_0, fo_1]) rfl ⟨_, rfl, ?_, ?_⟩
  · skip
    have hS1 : ∀ (W : World) (p : Addr) (u : Value), p.block < w.heap.size + 1 + 1 + 1 → Own oAs W0.heap.size w1.heap.size W [.slice ab1 an1 ac1] (x.2) → Own oAs W0.heap.size w1.heap.size (W.setCell p u) [.slice ab1 an1 ac1] (x.2) := fun W p u hp k9 => k9.setOut rfl (by omega)
    exact oQ_mk g0 (hS1 _ _ _ (by simp <;> omega) (hS1 _ _ _ (by simp <;> omega) (hS1 _ _ _ (by simp <;> omega) ho1))) (by omega) (by simp [World.setCell] <;> omega) 
  · exact (((q1.setCell (by simp <;> omega) _).setCell (by simp <;> omega) _).setCell (by simp <;> omega) _)

set_option maxHeartbeats 2000000 in
theorem eq_Q (cs ds : List Value) (x y : DQ) (w : World) (h : rQ.rep w cs x) (h' : rQ.rep w ds y) :
    Calls Try.prog 16 #[.agg cs.toArray, .agg ds.toArray] w fun e w' => e = .returned (.bool (decide (x = y))) ∧ Below w.heap.size w w' := by
  obtain ⟨ub1, un1, uc1, rfl, g0, g1⟩ := rQ_open h
  obtain ⟨vb1, vn1, vc1, rfl, k0, k1⟩ := rQ_open h'
  clear h h'
  have hb1 : Below w.heap.size w ((w.alloc (.cells #[.int .i64 x.1, .slice ub1 un1 uc1] 29)).alloc (.cells #[.int .i64 y.1, .slice vb1 vn1 vc1] 29)) := ((Below.refl _ _).alloc (Nat.le_refl _) _).alloc (by simp) _
  go_enter Try.func16, Try.ntmps16
  obtain ⟨w1, hw1⟩ : ∃ W, W = (w.alloc (.cells #[.int .i64 x.1, .slice ub1 un1 uc1] 29)).alloc (.cells #[.int .i64 y.1, .slice vb1 vn1 vc1] 29) := ⟨_, rfl⟩
  have s1 : w1.heap.size = w.heap.size + 1 + 1 := by rw [hw1]; simp
  rw [← hw1] at hb1
  have bc_0 : w1.cell? ⟨w.heap.size, 0, none⟩ = some (.int .i64 x.1) := by rw [hw1]; simp [go_sem, World.cell?_alloc_past]
  have bd_0 : w1.cell? ⟨w.heap.size + 1, 0, none⟩ = some (.int .i64 y.1) := by rw [hw1]; simp [go_sem, World.cell?_alloc_past]
  have bc_1 : w1.cell? ⟨w.heap.size, 1, none⟩ = some (.slice ub1 un1 uc1) := by rw [hw1]; simp [go_sem, World.cell?_alloc_past]
  have bd_1 : w1.cell? ⟨w.heap.size + 1, 1, none⟩ = some (.slice vb1 vn1 vc1) := by rw [hw1]; simp [go_sem, World.cell?_alloc_past]
  by_cases e0 : x.1 = y.1
  case neg =>
    have HE := Lib.hid (show decide (x = y) = false by simp only [decide_eq_false_iff_not]; intro h9; exact e0 (by rw [h9]))
    have hne := bne_iff_ne.2 e0
    clear e0
    go_wp2_with fail
    go_ret
    exact ⟨ret_bool HE.out.symm, by first | exact hb1 | (rw [hw1] at hb1; exact hb1)⟩
  have E0 := Lib.hid e0
  have hq0 : (x.1 != y.1) = false := by rw [e0]; simp
  clear e0
  go_wp2_with fail
  rw [← hw1]
  clear hw1
  refine (eq_As _ _ (x.2) (y.2) _ (rAs.mono g1 hb1) (rAs.mono k1 hb1)).mono ?_
  rintro e w2 ⟨rfl, z2⟩
  have s2 := z2.size
  have hb2 := on hb1 z2
  replace bc_0 := (z2.cell (p := ⟨w.heap.size, 0, none⟩) (by simp only []; omega)).trans bc_0
  replace bd_0 := (z2.cell (p := ⟨w.heap.size + 1, 0, none⟩) (by simp only []; omega)).trans bd_0
  replace bc_1 := (z2.cell (p := ⟨w.heap.size, 1, none⟩) (by simp only []; omega)).trans bc_1
  replace bd_1 := (z2.cell (p := ⟨w.heap.size + 1, 1, none⟩) (by simp only []; omega)).trans bd_1
  by_cases e1 : x.2 = y.2
  case neg =>
    have HE := Lib.hid (show decide (x = y) = false by simp only [decide_eq_false_iff_not]; intro h9; exact e1 (by rw [h9]))
    have hne : decide (x.2 = y.2) = false := by simpa using e1
    rw [hne]
    clear e1 hne
    go_wp2_with fail
    go_ret
    exact ⟨ret_bool HE.out.symm, hb2⟩
  have E1 := Lib.hid e1
  have hq1 : decide (x.2 = y.2) = true := by simpa using e1
  rw [hq1]
  clear e1 hq1
  have HE := Lib.hid (show decide (x = y) = true by simp only [decide_eq_true_eq]; exact Prod.ext E0.out (E1.out))
  go_wp2_with fail
  go_ret
  exact ⟨ret_bool HE.out.symm, hb2⟩

end Go.Proofs.Ythhbmbkecaffeaa
