/- Kind A: shape, size, copy, comparison. Written by a program. -/
import Derived.Test.YthhbmbkecaffeaaUniI
import Derived.Test.YthhbmbkecaffeaaGen
import Derived.Deep.RegionHeld3
namespace Go.Proofs.Ythhbmbkecaffeaa
open Go.RowKit
set_option linter.unusedVariables false
set_option linter.unusedSimpArgs false
set_option synthInstance.maxSize 2000
set_option synthInstance.maxHeartbeats 400000

abbrev DA := ByteArray × List Int
def rA : RS DA := R.pair R.str rI
def oA : OS DA := O.pair O.str oI
theorem reads_A : Reads oA rA := Reads.pair Reads.str reads_I
theorem rA_open {w : World} {cs : List Value} {x : DA} (h : rA.rep w cs x) : ∃ ub1 un1 uc1, cs = [.string x.1, .slice ub1 un1 uc1] ∧ x.1.size ≤ 9223372036854775807 ∧ rI.rep w [.slice ub1 un1 uc1] x.2 := by
  obtain ⟨c0a, c0b, rfl, ⟨rfl, hs0⟩, hr1⟩ := h
  obtain ⟨ub1, un1, uc1, rfl⟩ := rI_form hr1
  exact ⟨_, _, _, rfl, hs0, hr1⟩
theorem rA_form {w : World} {cs : List Value} {x : DA} (h : rA.rep w cs x) : ∃ ub1 un1 uc1, cs = [.string x.1, .slice ub1 un1 uc1] := by
  obtain ⟨ub1, un1, uc1, h1, _⟩ := rA_open h
  exact ⟨_, _, _, h1⟩
theorem rA_mk {w : World} {ub1 : Option Addr} {un1 uc1 : Nat} {x : DA} (h0 : x.1.size ≤ 9223372036854775807) (h1 : rI.rep w [.slice ub1 un1 uc1] x.2) : rA.rep w [.string x.1, .slice ub1 un1 uc1] x :=
  ⟨[.string x.1], [.slice ub1 un1 uc1], rfl, ⟨rfl, h0⟩, h1⟩
theorem oA_form {lo hi : Nat} {w : World} {cs : List Value} {x : DA} (h : Own oA lo hi w cs x) : ∃ ub1 un1 uc1, cs = [.string x.1, .slice ub1 un1 uc1] := rA_form (h.rd reads_A)

theorem oA_mk {lo hi l1 m1 : Nat} {w : World} {ub1 : Option Addr} {un1 uc1 : Nat} {x : DA} (hs0 : x.1.size ≤ 9223372036854775807) (ho1 : Own oI l1 m1 w [.slice ub1 un1 uc1] x.2) (a1 : lo ≤ l1) (b1 : m1 ≤ hi)  : Own oA lo hi w [.string x.1, .slice ub1 un1 uc1] x := by
  obtain ⟨f1, r1, n1, q1⟩ := ho1
  refine ⟨([] ++ f1), ⟨[.string x.1], [.slice ub1 un1 uc1], [], f1, rfl, rfl, ⟨rfl, hs0, rfl⟩, r1⟩, ?_, ?_⟩
  · try simp only [List.nil_append, List.append_nil]
    exact n1
  · intro p hp
    try simp only [List.nil_append, List.append_nil, List.mem_append] at hp
    have := q1 p hp; omega

def bulk_A (x : DA) : Nat := (x.1.size) + (bulk_I x.2)

set_option maxHeartbeats 1000000 in
theorem sz_A (cs : List Value) (x : DA) (left : Int) (w : World) (h : rA.rep w cs x) (h0 : 0 ≤ left) (h1 : left ≤ 1048576) :
    Calls Try.prog 89 #[.agg cs.toArray, .int .i64 left] w fun e w' => e = .returned (.int .i64 (szR left (bulk_A x))) ∧ Below w.heap.size w w' := by
  obtain ⟨ub1, un1, uc1, rfl, g0, g1⟩ := rA_open h
  clear h
  have HE0 : Hid (szR left (bulk_A x) = szR left ((x.1.size) + (bulk_I x.2))) := rfl
  go_enter Try.func89, Try.ntmps89
  obtain ⟨w1, hw1⟩ : ∃ W, W = w.alloc (.cells #[.string x.1, .slice ub1 un1 uc1] 110) := ⟨_, rfl⟩
  have z1 : Below w.heap.size w w1 := by rw [hw1]; exact (Below.refl _ _).alloc (Nat.le_refl _) _
  have s1 : w1.heap.size = w.heap.size + 1 := by rw [hw1]; simp
  have bp_0 : w1.cell? ⟨w.heap.size, 0, none⟩ = some (.string x.1) := by rw [hw1]; exact box_cell (Below.refl _ _) rfl
  have bp_1 : w1.cell? ⟨w.heap.size, 1, none⟩ = some (.slice ub1 un1 uc1) := by rw [hw1]; exact box_cell (Below.refl _ _) rfl
  have hb1 := z1
  by_cases l0 : (x.1.size : Int) ≤ left
  case neg =>
    have HE := Lib.hid (HE0.out.trans (szR_no _ l0))
    go_wp2_with fail
    go_ret
    exact ⟨ret_int HE.out.symm, by first | exact hb1 | (have h9 := hb1; rw [hw1] at h9; exact h9)⟩
  have HE1 := Lib.hid (HE0.out.trans (szR_add l0))
  go_wp2_with fail
  rw [← hw1]
  clear hw1
  refine (sz_I _ (x.2) _ _ (rI.mono g1 hb1) (by omega) (by omega)).mono ?_
  rintro e w' ⟨rfl, rfl⟩
  obtain ⟨q1, hq1⟩ : ∃ q, q = szR (left - x.1.size) (bulk_I (x.2)) := ⟨_, rfl⟩
  rw [← hq1]
  have hc1 := szR_cases (left - x.1.size) (bulk_I (x.2))
  rw [← hq1] at hc1
  clear hq1
  rcases hc1 with ⟨rfl, l1⟩ | ⟨hq1, l1⟩
  · have HE := Lib.hid (HE1.out.trans (szR_no0 l1))
    clear l1
    go_wp2_with fail
    go_ret
    exact ⟨ret_int HE.out.symm, hb1⟩
  have HE2 := Lib.hid (HE1.out.trans ((szR_yes l1).trans (by rw [hq1])) : szR left (bulk_A x) = q1)
  have p1 : 0 ≤ q1 := by omega
  have p1b : q1 ≤ 1048576 := by omega
  clear hq1 l1
  go_wp2_with fail
  go_ret
  exact ⟨ret_int HE2.out.symm, hb1⟩

set_option maxHeartbeats 2000000 in
theorem to_A (cs : List Value) (x : DA) (w : World) (h : rA.rep w cs x) (hn : bulk_A x ≤ 1048576) :
    Calls Try.prog 92 #[.agg cs.toArray] w fun e w' => ∃ us, e = .returned (.agg us.toArray) ∧ Own oA w.heap.size w'.heap.size w' us x ∧ Below w.heap.size w w' := by
  obtain ⟨ub1, un1, uc1, rfl, g0, g1⟩ := rA_open h
  clear h
  unfold bulk_A at hn
  have hn1 : bulk_I (x.2) ≤ 1048576 := by omega
  clear hn
  go_enter Try.func92, Try.ntmps92
  obtain ⟨W0, hW0⟩ : ∃ W, W = ((w.alloc (.cells #[.string x.1, .slice ub1 un1 uc1] 110)).alloc (.cells #[.string ⟨#[]⟩, .slice none 0 0] 80)).alloc (.cells #[.string x.1, .slice none 0 0] 80) := ⟨_, rfl⟩
  have hB0 : Below w.heap.size w W0 := by rw [hW0]; exact (((Below.refl _ _).alloc (Nat.le_refl _) _).alloc (by simp) _).alloc (by simp <;> omega) _
  have t0 : W0.heap.size = w.heap.size + 1 + 1 + 1 := by rw [hW0]; simp
  have bp_0 : W0.cell? ⟨w.heap.size, 0, none⟩ = some (.string x.1) := by rw [hW0]; simp [go_sem, World.cell?_alloc_past]
  have bp_1 : W0.cell? ⟨w.heap.size, 1, none⟩ = some (.slice ub1 un1 uc1) := by rw [hW0]; simp [go_sem, World.cell?_alloc_past]
  have br_0 : W0.cell? ⟨w.heap.size + 1, 0, none⟩ = some (.string ⟨#[]⟩) := by rw [hW0]; simp [go_sem, World.cell?_alloc_past]
  have fr_0 : W0.frozen? ⟨w.heap.size + 1, 0, none⟩ = false := by rw [hW0]; simp [go_sem, World.frozen?_alloc_past]
  have br_1 : W0.cell? ⟨w.heap.size + 1, 1, none⟩ = some (.slice none 0 0) := by rw [hW0]; simp [go_sem, World.cell?_alloc_past]
  have fr_1 : W0.frozen? ⟨w.heap.size + 1, 1, none⟩ = false := by rw [hW0]; simp [go_sem, World.frozen?_alloc_past]
  have bo_0 : W0.cell? ⟨w.heap.size + 1 + 1, 0, none⟩ = some (.string x.1) := by rw [hW0]; simp [go_sem, World.cell?_alloc_past]
  have fo_0 : W0.frozen? ⟨w.heap.size + 1 + 1, 0, none⟩ = false := by rw [hW0]; simp [go_sem, World.frozen?_alloc_past]
  have bo_1 : W0.cell? ⟨w.heap.size + 1 + 1, 1, none⟩ = some (.slice none 0 0) := by rw [hW0]; simp [go_sem, World.cell?_alloc_past]
  have fo_1 : W0.frozen? ⟨w.heap.size + 1 + 1, 1, none⟩ = false := by rw [hW0]; simp [go_sem, World.frozen?_alloc_past]
  go_wp2_with fail
  rw [← hW0]
  clear hW0
  refine (to_I _ (x.2) _ (rI.mono g1 hB0) hn1).mono ?_
  rintro e w1 ⟨a1, rfl, ho1, z1⟩
  have s1 := z1.size
  obtain ⟨ab1, an1, ac1, rfl⟩ := oI_form1 ho1
  have q1 := on hB0 z1
  replace bp_0 := (z1.cell (p := ⟨w.heap.size, 0, none⟩) (by simp only []; omega)).trans bp_0
  replace bp_1 := (z1.cell (p := ⟨w.heap.size, 1, none⟩) (by simp only []; omega)).trans bp_1
  replace br_0 := (z1.cell (p := ⟨w.heap.size + 1, 0, none⟩) (by simp only []; omega)).trans br_0
  replace fr_0 := (z1.frozen (p := ⟨w.heap.size + 1, 0, none⟩) (by simp only []; omega)).trans fr_0
  replace br_1 := (z1.cell (p := ⟨w.heap.size + 1, 1, none⟩) (by simp only []; omega)).trans br_1
  replace fr_1 := (z1.frozen (p := ⟨w.heap.size + 1, 1, none⟩) (by simp only []; omega)).trans fr_1
  replace bo_0 := (z1.cell (p := ⟨w.heap.size + 1 + 1, 0, none⟩) (by simp only []; omega)).trans bo_0
  replace fo_0 := (z1.frozen (p := ⟨w.heap.size + 1 + 1, 0, none⟩) (by simp only []; omega)).trans fo_0
  replace bo_1 := (z1.cell (p := ⟨w.heap.size + 1 + 1, 1, none⟩) (by simp only []; omega)).trans bo_1
  replace fo_1 := (z1.frozen (p := ⟨w.heap.size + 1 + 1, 1, none⟩) (by simp only []; omega)).trans fo_1
  go_wp2_with fail
  refine bodyPost_ret (v := .agg #[.string x.1, .slice ab1 an1 ac1]) (by simp [results, Try.results92, go_sem, br_0, br_1, bo_0, bo_1, fr_0, fr_1, fo_0, fo_1]) rfl ⟨_, rfl, ?_, ?_⟩
  · skip
    have hS1 : ∀ (W : World) (p : Addr) (u : Value), p.block < w.heap.size + 1 + 1 + 1 → Own oI W0.heap.size w1.heap.size W [.slice ab1 an1 ac1] (x.2) → Own oI W0.heap.size w1.heap.size (W.setCell p u) [.slice ab1 an1 ac1] (x.2) := fun W p u hp k9 => k9.setOut rfl (by omega)
    exact oA_mk g0 (hS1 _ _ _ (by simp <;> omega) (hS1 _ _ _ (by simp <;> omega) (hS1 _ _ _ (by simp <;> omega) ho1))) (by omega) (by simp [World.setCell] <;> omega) 
  · exact (((q1.setCell (by simp <;> omega) _).setCell (by simp <;> omega) _).setCell (by simp <;> omega) _)

set_option maxHeartbeats 2000000 in
theorem eq_A (cs ds : List Value) (x y : DA) (w : World) (h : rA.rep w cs x) (h' : rA.rep w ds y) :
    Calls Try.prog 99 #[.agg cs.toArray, .agg ds.toArray] w fun e w' => e = .returned (.bool (decide (x = y))) ∧ Below w.heap.size w w' := by
  obtain ⟨ub1, un1, uc1, rfl, g0, g1⟩ := rA_open h
  obtain ⟨vb1, vn1, vc1, rfl, k0, k1⟩ := rA_open h'
  clear h h'
  have hb1 : Below w.heap.size w ((w.alloc (.cells #[.string x.1, .slice ub1 un1 uc1] 80)).alloc (.cells #[.string y.1, .slice vb1 vn1 vc1] 80)) := ((Below.refl _ _).alloc (Nat.le_refl _) _).alloc (by simp) _
  go_enter Try.func99, Try.ntmps99
  obtain ⟨w1, hw1⟩ : ∃ W, W = (w.alloc (.cells #[.string x.1, .slice ub1 un1 uc1] 80)).alloc (.cells #[.string y.1, .slice vb1 vn1 vc1] 80) := ⟨_, rfl⟩
  have s1 : w1.heap.size = w.heap.size + 1 + 1 := by rw [hw1]; simp
  rw [← hw1] at hb1
  have bc_0 : w1.cell? ⟨w.heap.size, 0, none⟩ = some (.string x.1) := by rw [hw1]; simp [go_sem, World.cell?_alloc_past]
  have bd_0 : w1.cell? ⟨w.heap.size + 1, 0, none⟩ = some (.string y.1) := by rw [hw1]; simp [go_sem, World.cell?_alloc_past]
  have bc_1 : w1.cell? ⟨w.heap.size, 1, none⟩ = some (.slice ub1 un1 uc1) := by rw [hw1]; simp [go_sem, World.cell?_alloc_past]
  have bd_1 : w1.cell? ⟨w.heap.size + 1, 1, none⟩ = some (.slice vb1 vn1 vc1) := by rw [hw1]; simp [go_sem, World.cell?_alloc_past]
  by_cases e0 : x.1 = y.1
  case neg =>
    have HE := Lib.hid (show decide (x = y) = false by simp only [decide_eq_false_iff_not]; intro h9; exact e0 (by rw [h9]))
    have hne := bytes_ne e0
    clear e0
    go_wp2_with fail
    go_ret
    exact ⟨ret_bool HE.out.symm, by first | exact hb1 | (rw [hw1] at hb1; exact hb1)⟩
  have E0 := Lib.hid e0
  have hq0 : (x.1.toList == y.1.toList) = true := by rw [e0]; simp
  clear e0
  go_wp2_with fail
  rw [← hw1]
  clear hw1
  refine (eq_I _ _ (x.2) (y.2) _ (rI.mono g1 hb1) (rI.mono k1 hb1)).mono ?_
  rintro e w2 ⟨rfl, z2⟩
  replace z2 : Below w1.heap.size w1 w2 := z2.below _
  have s2 := z2.size
  have hb2 := on hb1 z2
  replace bc_0 := (z2.cell (p := ⟨w.heap.size, 0, none⟩) (by simp only []; omega)).trans bc_0
  replace bd_0 := (z2.cell (p := ⟨w.heap.size + 1, 0, none⟩) (by simp only []; omega)).trans bd_0
  replace bc_1 := (z2.cell (p := ⟨w.heap.size, 1, none⟩) (by simp only []; omega)).trans bc_1
  replace bd_1 := (z2.cell (p := ⟨w.heap.size + 1, 1, none⟩) (by simp only []; omega)).trans bd_1
  by_cases e1 : x.2 = y.2
  case neg =>
    have HE := Lib.hid (show decide (x = y) = false by simp only [decide_eq_false_iff_not]; intro h9; exact e1 (by rw [h9]))
    have hne : decide (x.2 = y.2) = false := by simpa using e1
    rw [hne]
    clear e1 hne
    go_wp2_with fail
    go_ret
    exact ⟨ret_bool HE.out.symm, hb2⟩
  have E1 := Lib.hid e1
  have hq1 : decide (x.2 = y.2) = true := by simpa using e1
  rw [hq1]
  clear e1 hq1
  have HE := Lib.hid (show decide (x = y) = true by simp only [decide_eq_true_eq]; exact Prod.ext E0.out (E1.out))
  go_wp2_with fail
  go_ret
  exact ⟨ret_bool HE.out.symm, hb2⟩

end Go.Proofs.Ythhbmbkecaffeaa
