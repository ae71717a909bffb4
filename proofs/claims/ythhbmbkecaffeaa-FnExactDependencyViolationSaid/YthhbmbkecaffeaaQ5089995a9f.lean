/- Texts joined for one claim: KDp, KII, KAn, KAs, KT, Mark, ODp, OII, RegLast, RowB, Copy, KQ, KTl. -/
import Derived.Test.YthhbmbkecaffeaaQf1bc38df43
import Derived.Deep.RegionHeld3
import Derived.Orders
import Derived.Deep.AppendSrc

/- Kind Dp: shape, size, copy, comparison. Written by a program. -/
namespace Go.Proofs.Ythhbmbkecaffeaa
open Go.RowKit
set_option linter.unusedVariables false
set_option linter.unusedSimpArgs false
set_option synthInstance.maxSize 2000
set_option synthInstance.maxHeartbeats 400000

abbrev DDp := ByteArray × (List Int) × Int
def rDp : RS DDp := R.pair R.str (R.pair rI R.int)
def oDp : OS DDp := O.pair O.str (O.pair oI O.int)
theorem reads_Dp : Reads oDp rDp := Reads.pair Reads.str (Reads.pair reads_I Reads.int)
theorem rDp_open {w : World} {cs : List Value} {x : DDp} (h : rDp.rep w cs x) : ∃ ub1 un1 uc1, cs = [.string x.1, .slice ub1 un1 uc1, .int .i64 x.2.2] ∧ x.1.size ≤ 9223372036854775807 ∧ rI.rep w [.slice ub1 un1 uc1] x.2.1 ∧ I64 x.2.2 := by
  obtain ⟨c0a, c0b, rfl, ⟨rfl, hs0⟩, ⟨c1a, c1b, rfl, hr1, ⟨rfl, hi2⟩⟩⟩ := h
  obtain ⟨ub1, un1, uc1, rfl⟩ := rI_form hr1
  exact ⟨_, _, _, rfl, hs0, hr1, hi2⟩
theorem rDp_form {w : World} {cs : List Value} {x : DDp} (h : rDp.rep w cs x) : ∃ ub1 un1 uc1, cs = [.string x.1, .slice ub1 un1 uc1, .int .i64 x.2.2] := by
  obtain ⟨ub1, un1, uc1, h1, _⟩ := rDp_open h
  exact ⟨_, _, _, h1⟩
theorem rDp_mk {w : World} {ub1 : Option Addr} {un1 uc1 : Nat} {x : DDp} (h0 : x.1.size ≤ 9223372036854775807) (h1 : rI.rep w [.slice ub1 un1 uc1] x.2.1) (h2 : I64 x.2.2) : rDp.rep w [.string x.1, .slice ub1 un1 uc1, .int .i64 x.2.2] x :=
  ⟨[.string x.1], [.slice ub1 un1 uc1, .int .i64 x.2.2], rfl, ⟨rfl, h0⟩, ⟨[.slice ub1 un1 uc1], [.int .i64 x.2.2], rfl, h1, ⟨rfl, h2⟩⟩⟩
theorem oDp_form {lo hi : Nat} {w : World} {cs : List Value} {x : DDp} (h : Own oDp lo hi w cs x) : ∃ ub1 un1 uc1, cs = [.string x.1, .slice ub1 un1 uc1, .int .i64 x.2.2] := rDp_form (h.rd reads_Dp)

theorem oDp_mk {lo hi l1 m1 : Nat} {w : World} {ub1 : Option Addr} {un1 uc1 : Nat} {x : DDp} (hs0 : x.1.size ≤ 9223372036854775807) (ho1 : Own oI l1 m1 w [.slice ub1 un1 uc1] x.2.1) (hi2 : I64 x.2.2) (a1 : lo ≤ l1) (b1 : m1 ≤ hi)  : Own oDp lo hi w [.string x.1, .slice ub1 un1 uc1, .int .i64 x.2.2] x := by
  obtain ⟨f1, r1, n1, q1⟩ := ho1
  refine ⟨([] ++ (f1 ++ [])), ⟨[.string x.1], [.slice ub1 un1 uc1, .int .i64 x.2.2], [], (f1 ++ []), rfl, rfl, ⟨rfl, hs0, rfl⟩, ⟨[.slice ub1 un1 uc1], [.int .i64 x.2.2], f1, [], rfl, rfl, r1, ⟨rfl, hi2, rfl⟩⟩⟩, ?_, ?_⟩
  · try simp only [List.nil_append, List.append_nil]
    exact n1
  · intro p hp
    try simp only [List.nil_append, List.append_nil, List.mem_append] at hp
    have := q1 p hp; omega

def bulk_Dp (x : DDp) : Nat := (x.1.size) + (bulk_I x.2.1)

set_option maxHeartbeats 1000000 in
theorem sz_Dp (cs : List Value) (x : DDp) (left : Int) (w : World) (h : rDp.rep w cs x) (h0 : 0 ≤ left) (h1 : left ≤ 1048576) :
    Calls Try.prog 37 #[.agg cs.toArray, .int .i64 left] w fun e w' => e = .returned (.int .i64 (szR left (bulk_Dp x))) ∧ Below w.heap.size w w' := by
  obtain ⟨ub1, un1, uc1, rfl, g0, g1, g2⟩ := rDp_open h
  clear h
  have HE0 : Hid (szR left (bulk_Dp x) = szR left ((x.1.size) + (bulk_I x.2.1))) := rfl
  go_enter Try.func37, Try.ntmps37
  obtain ⟨w1, hw1⟩ : ∃ W, W = w.alloc (.cells #[.string x.1, .slice ub1 un1 uc1, .int .i64 x.2.2] 65) := ⟨_, rfl⟩
  have z1 : Below w.heap.size w w1 := by rw [hw1]; exact (Below.refl _ _).alloc (Nat.le_refl _) _
  have s1 : w1.heap.size = w.heap.size + 1 := by rw [hw1]; simp
  have bp_0 : w1.cell? ⟨w.heap.size, 0, none⟩ = some (.string x.1) := by rw [hw1]; exact box_cell (Below.refl _ _) rfl
  have bp_1 : w1.cell? ⟨w.heap.size, 1, none⟩ = some (.slice ub1 un1 uc1) := by rw [hw1]; exact box_cell (Below.refl _ _) rfl
  have bp_2 : w1.cell? ⟨w.heap.size, 2, none⟩ = some (.int .i64 x.2.2) := by rw [hw1]; exact box_cell (Below.refl _ _) rfl
  have hb1 := z1
  by_cases l0 : (x.1.size : Int) ≤ left
  case neg =>
    have HE := Lib.hid (HE0.out.trans (szR_no _ l0))
    go_wp2_with fail
    go_ret
    exact ⟨ret_int HE.out.symm, by first | exact hb1 | (have h9 := hb1; rw [hw1] at h9; exact h9)⟩
  have HE1 := Lib.hid (HE0.out.trans (szR_add l0))
  go_wp2_with fail
  rw [← hw1]
  clear hw1
  refine (sz_I _ (x.2.1) _ _ (rI.mono g1 hb1) (by omega) (by omega)).mono ?_
  rintro e w' ⟨rfl, rfl⟩
  obtain ⟨q1, hq1⟩ : ∃ q, q = szR (left - x.1.size) (bulk_I (x.2.1)) := ⟨_, rfl⟩
  rw [← hq1]
  have hc1 := szR_cases (left - x.1.size) (bulk_I (x.2.1))
  rw [← hq1] at hc1
  clear hq1
  rcases hc1 with ⟨rfl, l1⟩ | ⟨hq1, l1⟩
  · have HE := Lib.hid (HE1.out.trans (szR_no0 l1))
    clear l1
    go_wp2_with fail
    go_ret
    exact ⟨ret_int HE.out.symm, hb1⟩
  have HE2 := Lib.hid (HE1.out.trans ((szR_yes l1).trans (by rw [hq1])) : szR left (bulk_Dp x) = q1)
  have p1 : 0 ≤ q1 := by omega
  have p1b : q1 ≤ 1048576 := by omega
  clear hq1 l1
  go_wp2_with fail
  go_ret
  exact ⟨ret_int HE2.out.symm, hb1⟩

set_option maxHeartbeats 2000000 in
theorem to_Dp (cs : List Value) (x : DDp) (w : World) (h : rDp.rep w cs x) (hn : bulk_Dp x ≤ 1048576) :
    Calls Try.prog 39 #[.agg cs.toArray] w fun e w' => ∃ us, e = .returned (.agg us.toArray) ∧ Own oDp w.heap.size w'.heap.size w' us x ∧ Below w.heap.size w w' := by
  obtain ⟨ub1, un1, uc1, rfl, g0, g1, g2⟩ := rDp_open h
  clear h
  unfold bulk_Dp at hn
  have hn1 : bulk_I (x.2.1) ≤ 1048576 := by omega
  clear hn
  go_enter Try.func39, Try.ntmps39
  obtain ⟨W0, hW0⟩ : ∃ W, W = ((w.alloc (.cells #[.string x.1, .slice ub1 un1 uc1, .int .i64 x.2.2] 65)).alloc (.cells #[.string ⟨#[]⟩, .slice none 0 0, .int .i64 0] 68)).alloc (.cells #[.string x.1, .slice none 0 0, .int .i64 0] 68) := ⟨_, rfl⟩
  have hB0 : Below w.heap.size w W0 := by rw [hW0]; exact (((Below.refl _ _).alloc (Nat.le_refl _) _).alloc (by simp) _).alloc (by simp <;> omega) _
  have t0 : W0.heap.size = w.heap.size + 1 + 1 + 1 := by rw [hW0]; simp
  have bp_0 : W0.cell? ⟨w.heap.size, 0, none⟩ = some (.string x.1) := by rw [hW0]; simp [go_sem, World.cell?_alloc_past]
  have bp_1 : W0.cell? ⟨w.heap.size, 1, none⟩ = some (.slice ub1 un1 uc1) := by rw [hW0]; simp [go_sem, World.cell?_alloc_past]
  have bp_2 : W0.cell? ⟨w.heap.size, 2, none⟩ = some (.int .i64 x.2.2) := by rw [hW0]; simp [go_sem, World.cell?_alloc_past]
  have br_0 : W0.cell? ⟨w.heap.size + 1, 0, none⟩ = some (.string ⟨#[]⟩) := by rw [hW0]; simp [go_sem, World.cell?_alloc_past]
  have fr_0 : W0.frozen? ⟨w.heap.size + 1, 0, none⟩ = false := by rw [hW0]; simp [go_sem, World.frozen?_alloc_past]
  have br_1 : W0.cell? ⟨w.heap.size + 1, 1, none⟩ = some (.slice none 0 0) := by rw [hW0]; simp [go_sem, World.cell?_alloc_past]
  have fr_1 : W0.frozen? ⟨w.heap.size + 1, 1, none⟩ = false := by rw [hW0]; simp [go_sem, World.frozen?_alloc_past]
  have br_2 : W0.cell? ⟨w.heap.size + 1, 2, none⟩ = some (.int .i64 0) := by rw [hW0]; simp [go_sem, World.cell?_alloc_past]
  have fr_2 : W0.frozen? ⟨w.heap.size + 1, 2, none⟩ = false := by rw [hW0]; simp [go_sem, World.frozen?_alloc_past]
  have bo_0 : W0.cell? ⟨w.heap.size + 1 + 1, 0, none⟩ = some (.string x.1) := by rw [hW0]; simp [go_sem, World.cell?_alloc_past]
  have fo_0 : W0.frozen? ⟨w.heap.size + 1 + 1, 0, none⟩ = false := by rw [hW0]; simp [go_sem, World.frozen?_alloc_past]
  have bo_1 : W0.cell? ⟨w.heap.size + 1 + 1, 1, none⟩ = some (.slice none 0 0) := by rw [hW0]; simp [go_sem, World.cell?_alloc_past]
  have fo_1 : W0.frozen? ⟨w.heap.size + 1 + 1, 1, none⟩ = false := by rw [hW0]; simp [go_sem, World.frozen?_alloc_past]
  have bo_2 : W0.cell? ⟨w.heap.size + 1 + 1, 2, none⟩ = some (.int .i64 0) := by rw [hW0]; simp [go_sem, World.cell?_alloc_past]
  have fo_2 : W0.frozen? ⟨w.heap.size + 1 + 1, 2, none⟩ = false := by rw [hW0]; simp [go_sem, World.frozen?_alloc_past]
  go_wp2_with fail
  rw [← hW0]
  clear hW0
  refine (to_I _ (x.2.1) _ (rI.mono g1 hB0) hn1).mono ?_
  rintro e w1 ⟨a1, rfl, ho1, z1⟩
  have s1 := z1.size
  obtain ⟨ab1, an1, ac1, rfl⟩ := oI_form1 ho1
  have q1 := on hB0 z1
  replace bp_0 := (z1.cell (p := ⟨w.heap.size, 0, none⟩) (by simp only []; omega)).trans bp_0
  replace bp_1 := (z1.cell (p := ⟨w.heap.size, 1, none⟩) (by simp only []; omega)).trans bp_1
  replace bp_2 := (z1.cell (p := ⟨w.heap.size, 2, none⟩) (by simp only []; omega)).trans bp_2
  replace br_0 := (z1.cell (p := ⟨w.heap.size + 1, 0, none⟩) (by simp only []; omega)).trans br_0
  replace fr_0 := (z1.frozen (p := ⟨w.heap.size + 1, 0, none⟩) (by simp only []; omega)).trans fr_0
  replace br_1 := (z1.cell (p := ⟨w.heap.size + 1, 1, none⟩) (by simp only []; omega)).trans br_1
  replace fr_1 := (z1.frozen (p := ⟨w.heap.size + 1, 1, none⟩) (by simp only []; omega)).trans fr_1
  replace br_2 := (z1.cell (p := ⟨w.heap.size + 1, 2, none⟩) (by simp only []; omega)).trans br_2
  replace fr_2 := (z1.frozen (p := ⟨w.heap.size + 1, 2, none⟩) (by simp only []; omega)).trans fr_2
  replace bo_0 := (z1.cell (p := ⟨w.heap.size + 1 + 1, 0, none⟩) (by simp only []; omega)).trans bo_0
  replace fo_0 := (z1.frozen (p := ⟨w.heap.size + 1 + 1, 0, none⟩) (by simp only []; omega)).trans fo_0
  replace bo_1 := (z1.cell (p := ⟨w.heap.size + 1 + 1, 1, none⟩) (by simp only []; omega)).trans bo_1
  replace fo_1 := (z1.frozen (p := ⟨w.heap.size + 1 + 1, 1, none⟩) (by simp only []; omega)).trans fo_1
  replace bo_2 := (z1.cell (p := ⟨w.heap.size + 1 + 1, 2, none⟩) (by simp only []; omega)).trans bo_2
  replace fo_2 := (z1.frozen (p := ⟨w.heap.size + 1 + 1, 2, none⟩) (by simp only []; omega)).trans fo_2
  go_wp2_with fail
  refine bodyPost_ret (v := .agg #[.string x.1, .slice ab1 an1 ac1, .int .i64 x.2.2]) (by simp [results, Try.results39, go_sem, br_0, br_1, br_2, bo_0, bo_1, bo_2, fr_0, fr_1, fr_2, fo_0, fo_1, fo_2]) rfl ⟨_, rfl, ?_, ?_⟩
  · skip
    have hS1 : ∀ (W : World) (p : Addr) (u : Value), p.block < w.heap.size + 1 + 1 + 1 → Own oI W0.heap.size w1.heap.size W [.slice ab1 an1 ac1] (x.2.1) → Own oI W0.heap.size w1.heap.size (W.setCell p u) [.slice ab1 an1 ac1] (x.2.1) := fun W p u hp k9 => k9.setOut rfl (by omega)
    exact oDp_mk g0 (hS1 _ _ _ (by simp <;> omega) (hS1 _ _ _ (by simp <;> omega) (hS1 _ _ _ (by simp <;> omega) (hS1 _ _ _ (by simp <;> omega) (hS1 _ _ _ (by simp <;> omega) ho1))))) g2 (by omega) (by simp [World.setCell] <;> omega) 
  · exact (((((q1.setCell (by simp <;> omega) _).setCell (by simp <;> omega) _).setCell (by simp <;> omega) _).setCell (by simp <;> omega) _).setCell (by simp <;> omega) _)

set_option maxHeartbeats 2000000 in
theorem eq_Dp (cs ds : List Value) (x y : DDp) (w : World) (h : rDp.rep w cs x) (h' : rDp.rep w ds y) :
    Calls Try.prog 41 #[.agg cs.toArray, .agg ds.toArray] w fun e w' => e = .returned (.bool (decide (x = y))) ∧ Below w.heap.size w w' := by
  obtain ⟨ub1, un1, uc1, rfl, g0, g1, g2⟩ := rDp_open h
  obtain ⟨vb1, vn1, vc1, rfl, k0, k1, k2⟩ := rDp_open h'
  clear h h'
  have hb1 : Below w.heap.size w ((w.alloc (.cells #[.string x.1, .slice ub1 un1 uc1, .int .i64 x.2.2] 68)).alloc (.cells #[.string y.1, .slice vb1 vn1 vc1, .int .i64 y.2.2] 68)) := ((Below.refl _ _).alloc (Nat.le_refl _) _).alloc (by simp) _
  go_enter Try.func41, Try.ntmps41
  obtain ⟨w1, hw1⟩ : ∃ W, W = (w.alloc (.cells #[.string x.1, .slice ub1 un1 uc1, .int .i64 x.2.2] 68)).alloc (.cells #[.string y.1, .slice vb1 vn1 vc1, .int .i64 y.2.2] 68) := ⟨_, rfl⟩
  have s1 : w1.heap.size = w.heap.size + 1 + 1 := by rw [hw1]; simp
  rw [← hw1] at hb1
  have bc_0 : w1.cell? ⟨w.heap.size, 0, none⟩ = some (.string x.1) := by rw [hw1]; simp [go_sem, World.cell?_alloc_past]
  have bd_0 : w1.cell? ⟨w.heap.size + 1, 0, none⟩ = some (.string y.1) := by rw [hw1]; simp [go_sem, World.cell?_alloc_past]
  have bc_1 : w1.cell? ⟨w.heap.size, 1, none⟩ = some (.slice ub1 un1 uc1) := by rw [hw1]; simp [go_sem, World.cell?_alloc_past]
  have bd_1 : w1.cell? ⟨w.heap.size + 1, 1, none⟩ = some (.slice vb1 vn1 vc1) := by rw [hw1]; simp [go_sem, World.cell?_alloc_past]
  have bc_2 : w1.cell? ⟨w.heap.size, 2, none⟩ = some (.int .i64 x.2.2) := by rw [hw1]; simp [go_sem, World.cell?_alloc_past]
  have bd_2 : w1.cell? ⟨w.heap.size + 1, 2, none⟩ = some (.int .i64 y.2.2) := by rw [hw1]; simp [go_sem, World.cell?_alloc_past]
  by_cases e0 : x.1 = y.1
  case neg =>
    have HE := Lib.hid (show decide (x = y) = false by simp only [decide_eq_false_iff_not]; intro h9; exact e0 (by rw [h9]))
    have hne := bytes_ne e0
    clear e0
    go_wp2_with fail
    go_ret
    exact ⟨ret_bool HE.out.symm, by first | exact hb1 | (rw [hw1] at hb1; exact hb1)⟩
  have E0 := Lib.hid e0
  have hq0 : (x.1.toList == y.1.toList) = true := by rw [e0]; simp
  clear e0
  go_wp2_with fail
  rw [← hw1]
  clear hw1
  refine (eq_I _ _ (x.2.1) (y.2.1) _ (rI.mono g1 hb1) (rI.mono k1 hb1)).mono ?_
  rintro e w2 ⟨rfl, z2⟩
  replace z2 : Below w1.heap.size w1 w2 := z2.below _
  have s2 := z2.size
  have hb2 := on hb1 z2
  replace bc_0 := (z2.cell (p := ⟨w.heap.size, 0, none⟩) (by simp only []; omega)).trans bc_0
  replace bd_0 := (z2.cell (p := ⟨w.heap.size + 1, 0, none⟩) (by simp only []; omega)).trans bd_0
  replace bc_1 := (z2.cell (p := ⟨w.heap.size, 1, none⟩) (by simp only []; omega)).trans bc_1
  replace bd_1 := (z2.cell (p := ⟨w.heap.size + 1, 1, none⟩) (by simp only []; omega)).trans bd_1
  replace bc_2 := (z2.cell (p := ⟨w.heap.size, 2, none⟩) (by simp only []; omega)).trans bc_2
  replace bd_2 := (z2.cell (p := ⟨w.heap.size + 1, 2, none⟩) (by simp only []; omega)).trans bd_2
  by_cases e1 : x.2.1 = y.2.1
  case neg =>
    have HE := Lib.hid (show decide (x = y) = false by simp only [decide_eq_false_iff_not]; intro h9; exact e1 (by rw [h9]))
    have hne : decide (x.2.1 = y.2.1) = false := by simpa using e1
    rw [hne]
    clear e1 hne
    go_wp2_with fail
    go_ret
    exact ⟨ret_bool HE.out.symm, hb2⟩
  have E1 := Lib.hid e1
  have hq1 : decide (x.2.1 = y.2.1) = true := by simpa using e1
  rw [hq1]
  clear e1 hq1
  by_cases e2 : x.2.2 = y.2.2
  case neg =>
    have HE := Lib.hid (show decide (x = y) = false by simp only [decide_eq_false_iff_not]; intro h9; exact e2 (by rw [h9]))
    have hne := bne_iff_ne.2 e2
    clear e2
    go_wp2_with fail
    go_ret
    exact ⟨ret_bool HE.out.symm, hb2⟩
  have E2 := Lib.hid e2
  have hq2 : (x.2.2 != y.2.2) = false := by rw [e2]; simp
  clear e2
  have HE := Lib.hid (show decide (x = y) = true by simp only [decide_eq_true_eq]; exact Prod.ext E0.out (Prod.ext E1.out (E2.out)))
  go_wp2_with fail
  go_ret
  exact ⟨ret_bool HE.out.symm, hb2⟩

end Go.Proofs.Ythhbmbkecaffeaa

/- Kind II: shape, size, copy, comparison. Written by a program. -/
namespace Go.Proofs.Ythhbmbkecaffeaa
open Go.RowKit
set_option linter.unusedVariables false
set_option linter.unusedSimpArgs false
set_option synthInstance.maxSize 2000
set_option synthInstance.maxHeartbeats 400000

theorem rII_form {w : World} {cs : List Value} {xs : List (List Int)} (h : rII.rep w cs xs) : ∃ b n c, cs = [.slice b n c] := rS_form h
theorem oII_form1 {lo hi : Nat} {w : World} {v : Value} {xs : List (List Int)} (h : Own oII lo hi w [v] xs) : ∃ b n c, v = .slice b n c := oS_form1 reads_I h
def bulk_II (xs : List (List Int)) : Nat := xs.length + sumBy bulk_I xs

set_option maxHeartbeats 1000000 in
theorem sz_II (v : Value) (xs : List (List Int)) (left : Int) (w : World) (h : rII.rep w [v] xs) (h0 : 0 ≤ left) (h1 : left ≤ 1048576) :
    Calls Try.prog 72 #[v, .int .i64 left] w fun e w' => e = .returned (.int .i64 (szR left (bulk_II xs))) ∧ Below w.heap.size w w' := by
  obtain ⟨a, cap, rfl, hn1, hn2, hi⟩ := rS_open h
  clear h
  unfold bulk_II
  have hsm := hi.small
  obtain ⟨n, hlen⟩ : ∃ n, xs.length = n := ⟨_, rfl⟩
  rw [hlen] at hi hsm hn1 ⊢
  by_cases hl : (n : Int) ≤ left
  case neg =>
    have HE := Lib.hid (szR_no (sumBy bulk_I xs) hl)
    clear hi
    go_enter Try.func72, Try.ntmps72
    go_wp2_with fail
    go_ret
    exact ⟨ret_int HE.out.symm, Below.refl _ _⟩
  have HE := Lib.hid (szR_add (b := sumBy bulk_I xs) hl)
  go_enter Try.func72, Try.ntmps72
  go_wp2_with fail
  go_loopw [1, 5] (fun l i wr => ∃ (j : Nat) (q : Int), j ≤ n ∧ i = .int .i64 j ∧ l = .int .i64 q ∧ 0 ≤ q ∧ q ≤ 1048576 ∧ Hid (szR left (n + sumBy bulk_I xs) = szR q (sumBy bulk_I (xs.drop j))) ∧ Below w.heap.size w wr) (fun _ i _ => n - (intOf i).toNat)
  case atStart => exact ⟨0, left - n, Nat.zero_le _, rfl, rfl, by omega, by omega, HE.out, Below.refl _ _⟩
  case round =>
    obtain ⟨j, q, hj, rfl, rfl, q0, q1, hE, hb⟩ := hrel
    clear HE
    by_cases hlt : j < n
    · obtain ⟨b, off, cs, x, rfl, hx, hr, hc⟩ := (hi.below hb).at hlt
      obtain ⟨ub, un, uc, rfl⟩ := rI_form hr
      have c0 : wr.cell? ⟨b, off + j, none⟩ = some (.slice ub un uc) := by have h9 := hc 0 _ rfl; rw [show rI.size = 1 from rfl] at h9; simpa using h9
      clear hc
      have HS := hE.out.trans (congrArg (szR q) (sumBy_drop bulk_I hx.out))
      have hcs := szR_cases q (bulk_I x)
      have hcall := sz_I _ x q wr hr q0 q1
      obtain ⟨p, hp⟩ : ∃ p, p = szR q (bulk_I x) := ⟨_, rfl⟩
      rw [← hp] at hcall hcs
      have HC := Lib.hid hcall
      clear hcall hi
      rcases hcs with ⟨rfl, l⟩ | ⟨hp2, l⟩
      · have HE := Lib.hid (HS.trans (szR_no _ l))
        clear hp HS l hE
        go_wp2_with fail
        refine HC.out.mono ?_
        rintro e w1 ⟨rfl, z1⟩
        replace z1 : Below wr.heap.size wr w1 := by rw [z1]; exact Below.refl _ _
        go_wp2_with fail
        go_ret
        exact ⟨ret_int HE.out.symm, on hb z1⟩
      · have HE := Lib.hid (HS.trans ((szR_add l).trans (by rw [← hp2])) : szR left (n + sumBy bulk_I xs) = szR p (sumBy bulk_I (xs.drop (j + 1))))
        have p0 : 0 ≤ p := by omega
        have p1 : p ≤ 1048576 := by omega
        clear hp hp2 HS l hE
        go_wp2_with fail
        refine HC.out.mono ?_
        rintro e w1 ⟨rfl, z1⟩
        replace z1 : Below wr.heap.size wr w1 := by rw [z1]; exact Below.refl _ _
        go_wp2_with fail
        go_roundw
        case rel => exact ⟨j + 1, p, by omega, by go_num, rfl, p0, p1, HE, on hb z1⟩
        case measure => simp [intOf]; omega
    · have HE := Lib.hid (hE.out.trans (by rw [sumBy_end _ (by omega)]; unfold szR; rw [if_pos (by omega)]; simp) : szR left (n + sumBy bulk_I xs) = q)
      clear hi hE
      go_wp2_with fail
      go_ret
      exact ⟨ret_int HE.out.symm, hb⟩

set_option maxHeartbeats 2000000 in
set_option maxRecDepth 100000 in
theorem to_II (v : Value) (xs : List (List Int)) (w : World) (h : rII.rep w [v] xs) (hn : bulk_II xs ≤ 1048576) :
    Calls Try.prog 76 #[v] w fun e w' => ∃ u, e = .returned u ∧ Own oII w.heap.size w'.heap.size w' [u] xs ∧ Below w.heap.size w w' := by
  obtain ⟨a, cap, rfl, hn1, hn2, hi⟩ := rS_open h
  clear h
  unfold bulk_II at hn
  obtain ⟨n, hlen⟩ : ∃ n, xs.length = n := ⟨_, rfl⟩
  rw [hlen] at hi hn hn1 ⊢
  have hbk : ∀ (j : Nat) x, xs[j]? = some x → bulk_I x ≤ 1048576 := fun j x hx => by have := sumBy_mem bulk_I hx; omega
  have hn3 : n ≤ 100000000 := by omega
  clear hn
  go_enter Try.func76, Try.ntmps76
  go_wp2_with (at_make; refine wpList_mkS (size := 1) (bytes := 24) (z := .slice none 0 0) rfl rfl rfl (by decide) (by decide) oI xs _ _ n hn3 rfl rfl rfl rfl ?_; intro w1 hp1 hb1 hz1)
  go_wp2_with fail
  go_loopw [4] (fun k wr => ∃ j : Nat, j ≤ n ∧ k = .int .i64 j ∧ Part 35 oI [.slice none 0 0] w.heap.size wr w.heap.size n j xs ∧ Below w.heap.size w wr) (fun k _ => n - (intOf k).toNat)
  case atStart => exact ⟨0, Nat.zero_le _, rfl, hp1, hb1⟩
  case round =>
    obtain ⟨j, hj, rfl, hp, hb⟩ := hrel
    clear hp1 hb1
    by_cases hlt : j < n
    · obtain ⟨b, off, cs, x, rfl, hx, hr, hc⟩ := (hi.below hb).at hlt
      obtain ⟨ub, un, uc, rfl⟩ := rI_form hr
      have c0 : wr.cell? ⟨b, off + j, none⟩ = some (.slice ub un uc) := by have h9 := hc 0 _ rfl; rw [show rI.size = 1 from rfl] at h9; simpa using h9
      clear hc
      have hg : w.heap.size < wr.heap.size := by obtain ⟨_, _, _, _, _, _, _, h9⟩ := hp; exact h9
      have HC := Lib.hid (to_I _ x wr hr (hbk j x hx.out))
      have HI := Lib.hid hi
      go_wp2_with fail
      refine HC.out.mono ?_
      rintro e w1 ⟨d, rfl, ho, z1⟩
      obtain ⟨db, dn, dc, rfl⟩ := oI_form1 ho
      have s1 := z1.size
      have hp1 : Part 35 oI [.slice none 0 0] w.heap.size w1 w.heap.size n j xs := hp.below z1 (Nat.le_refl _)
      obtain ⟨⟨e0, f0⟩, g0⟩ := hp1.cell rfl hlt (by omega) 0 (by decide)
      rw [show oI.size = 1 from rfl, Nat.mul_one, Nat.add_zero] at f0 g0
      replace f0 : w1.cell? ⟨w.heap.size, j, none⟩ = some e0 := f0
      replace g0 : w1.frozen? ⟨w.heap.size, j, none⟩ = false := g0
      have HP := Lib.hid (hp1.step (cs := [.slice db dn dc]) rfl hlt hx.out ho hg ⟨wr, hp, Nat.le_refl _, fun p hp => z1.block p hp⟩ (Nat.le_refl _) (by omega))
      rw [show oI.size = 1 from rfl, Nat.mul_one] at HP
      have hb1 := on hb z1
      clear ho hp hp1
      go_wp2_with fail
      go_roundw
      case rel => exact ⟨j + 1, by omega, by go_num, HP.out, (hb1.setCell (Nat.le_refl _) _)⟩
      case measure => simp [intOf]; omega
    · have hjn : j = n := by omega
      subst hjn
      have HO := Lib.hid (hp.done hlen (by omega))
      clear hp hi
      go_wp2_with fail
      go_ret
      exact ⟨_, rfl, HO.out, hb⟩

set_option maxHeartbeats 2000000 in
theorem eq_II (u v : Value) (xs ys : List (List Int)) (w : World) (h : rII.rep w [u] xs) (h' : rII.rep w [v] ys) :
    Calls Try.prog 79 #[u, v] w fun e w' => e = .returned (.bool (decide (xs = ys))) ∧ Below w.heap.size w w' := by
  obtain ⟨a, cap, rfl, _, _, hi⟩ := rS_open h
  obtain ⟨a', cap', rfl, _, _, hi'⟩ := rS_open h'
  exact (eqIntSS_any _ _ _ _ _ _ _ _ _ hi hi').mono fun e w' ⟨h1, h2⟩ => ⟨h1, h2.below _⟩

end Go.Proofs.Ythhbmbkecaffeaa

/- Kind An: shape, size, copy, comparison. Written by a program. -/
namespace Go.Proofs.Ythhbmbkecaffeaa
open Go.RowKit
set_option linter.unusedVariables false
set_option linter.unusedSimpArgs false
set_option synthInstance.maxSize 2000
set_option synthInstance.maxHeartbeats 400000

abbrev DAn := (List Int) × List (List Int)
def rAn : RS DAn := R.pair rI rII
def oAn : OS DAn := O.pair oI oII
theorem reads_An : Reads oAn rAn := Reads.pair reads_I reads_II
theorem rAn_open {w : World} {cs : List Value} {x : DAn} (h : rAn.rep w cs x) : ∃ ub0 un0 uc0 ub1 un1 uc1, cs = [.slice ub0 un0 uc0, .slice ub1 un1 uc1] ∧ rI.rep w [.slice ub0 un0 uc0] x.1 ∧ rII.rep w [.slice ub1 un1 uc1] x.2 := by
  obtain ⟨c0a, c0b, rfl, hr0, hr1⟩ := h
  obtain ⟨ub0, un0, uc0, rfl⟩ := rI_form hr0
  obtain ⟨ub1, un1, uc1, rfl⟩ := rII_form hr1
  exact ⟨_, _, _, _, _, _, rfl, hr0, hr1⟩
theorem rAn_form {w : World} {cs : List Value} {x : DAn} (h : rAn.rep w cs x) : ∃ ub0 un0 uc0 ub1 un1 uc1, cs = [.slice ub0 un0 uc0, .slice ub1 un1 uc1] := by
  obtain ⟨ub0, un0, uc0, ub1, un1, uc1, h1, _⟩ := rAn_open h
  exact ⟨_, _, _, _, _, _, h1⟩
theorem rAn_mk {w : World} {ub0 : Option Addr} {un0 uc0 : Nat} {ub1 : Option Addr} {un1 uc1 : Nat} {x : DAn} (h0 : rI.rep w [.slice ub0 un0 uc0] x.1) (h1 : rII.rep w [.slice ub1 un1 uc1] x.2) : rAn.rep w [.slice ub0 un0 uc0, .slice ub1 un1 uc1] x :=
  ⟨[.slice ub0 un0 uc0], [.slice ub1 un1 uc1], rfl, h0, h1⟩
theorem oAn_form {lo hi : Nat} {w : World} {cs : List Value} {x : DAn} (h : Own oAn lo hi w cs x) : ∃ ub0 un0 uc0 ub1 un1 uc1, cs = [.slice ub0 un0 uc0, .slice ub1 un1 uc1] := rAn_form (h.rd reads_An)

theorem oAn_mk {lo hi l0 m0 l1 m1 : Nat} {w : World} {ub0 : Option Addr} {un0 uc0 : Nat} {ub1 : Option Addr} {un1 uc1 : Nat} {x : DAn} (ho0 : Own oI l0 m0 w [.slice ub0 un0 uc0] x.1) (ho1 : Own oII l1 m1 w [.slice ub1 un1 uc1] x.2) (a0 : lo ≤ l0) (b0 : m0 ≤ hi) (a1 : lo ≤ l1) (b1 : m1 ≤ hi) (d0_1 : m0 ≤ l1) : Own oAn lo hi w [.slice ub0 un0 uc0, .slice ub1 un1 uc1] x := by
  obtain ⟨f0, r0, n0, q0⟩ := ho0
  obtain ⟨f1, r1, n1, q1⟩ := ho1
  refine ⟨(f0 ++ f1), ⟨[.slice ub0 un0 uc0], [.slice ub1 un1 uc1], f0, f1, rfl, rfl, r0, r1⟩, ?_, ?_⟩
  · try simp only [List.nil_append, List.append_nil]
    exact List.nodup_append.2 ⟨n0, n1, fun p hp q hq e => by subst e; have := q0 p hp; have := q1 p hq; omega⟩
  · intro p hp
    try simp only [List.nil_append, List.append_nil, List.mem_append] at hp
    rcases hp with hp | hp
    · have := q0 p hp; omega
    · have := q1 p hp; omega

def bulk_An (x : DAn) : Nat := (bulk_I x.1) + (bulk_II x.2)

set_option maxHeartbeats 1000000 in
theorem sz_An (cs : List Value) (x : DAn) (left : Int) (w : World) (h : rAn.rep w cs x) (h0 : 0 ≤ left) (h1 : left ≤ 1048576) :
    Calls Try.prog 32 #[.agg cs.toArray, .int .i64 left] w fun e w' => e = .returned (.int .i64 (szR left (bulk_An x))) ∧ Below w.heap.size w w' := by
  obtain ⟨ub0, un0, uc0, ub1, un1, uc1, rfl, g0, g1⟩ := rAn_open h
  clear h
  have HE0 : Hid (szR left (bulk_An x) = szR left ((bulk_I x.1) + (bulk_II x.2))) := rfl
  go_enter Try.func32, Try.ntmps32
  obtain ⟨w1, hw1⟩ : ∃ W, W = w.alloc (.cells #[.slice ub0 un0 uc0, .slice ub1 un1 uc1] 57) := ⟨_, rfl⟩
  have z1 : Below w.heap.size w w1 := by rw [hw1]; exact (Below.refl _ _).alloc (Nat.le_refl _) _
  have s1 : w1.heap.size = w.heap.size + 1 := by rw [hw1]; simp
  have bp_0 : w1.cell? ⟨w.heap.size, 0, none⟩ = some (.slice ub0 un0 uc0) := by rw [hw1]; exact box_cell (Below.refl _ _) rfl
  have bp_1 : w1.cell? ⟨w.heap.size, 1, none⟩ = some (.slice ub1 un1 uc1) := by rw [hw1]; exact box_cell (Below.refl _ _) rfl
  have hb1 := z1
  go_wp2_with fail
  rw [← hw1]
  clear hw1
  refine (sz_I _ (x.1) _ _ (rI.mono g0 hb1) (by omega) (by omega)).mono ?_
  rintro e w' ⟨rfl, rfl⟩
  obtain ⟨q0, hq0⟩ : ∃ q, q = szR left (bulk_I (x.1)) := ⟨_, rfl⟩
  rw [← hq0]
  have hc0 := szR_cases left (bulk_I (x.1))
  rw [← hq0] at hc0
  clear hq0
  rcases hc0 with ⟨rfl, l0⟩ | ⟨hq0, l0⟩
  · have HE := Lib.hid (HE0.out.trans (szR_no _ l0))
    clear l0
    go_wp2_with fail
    go_ret
    exact ⟨ret_int HE.out.symm, hb1⟩
  have HE1 := Lib.hid (HE0.out.trans ((szR_add l0).trans (by rw [hq0])) : szR left (bulk_An x) = szR q0 (bulk_II x.2))
  have p0 : 0 ≤ q0 := by omega
  have p0b : q0 ≤ 1048576 := by omega
  clear hq0 l0
  go_wp2_with fail
  refine (sz_II _ (x.2) _ _ (rII.mono g1 hb1) (by omega) (by omega)).mono ?_
  rintro e w2 ⟨rfl, z2⟩
  have s2 := z2.size
  have hb2 := on hb1 z2
  replace bp_0 := (z2.cell (p := ⟨w.heap.size, 0, none⟩) (by simp only []; omega)).trans bp_0
  replace bp_1 := (z2.cell (p := ⟨w.heap.size, 1, none⟩) (by simp only []; omega)).trans bp_1
  obtain ⟨q1, hq1⟩ : ∃ q, q = szR q0 (bulk_II (x.2)) := ⟨_, rfl⟩
  rw [← hq1]
  have hc1 := szR_cases q0 (bulk_II (x.2))
  rw [← hq1] at hc1
  clear hq1
  rcases hc1 with ⟨rfl, l1⟩ | ⟨hq1, l1⟩
  · have HE := Lib.hid (HE1.out.trans (szR_no0 l1))
    clear l1
    go_wp2_with fail
    go_ret
    exact ⟨ret_int HE.out.symm, hb2⟩
  have HE2 := Lib.hid (HE1.out.trans ((szR_yes l1).trans (by rw [hq1])) : szR left (bulk_An x) = q1)
  have p1 : 0 ≤ q1 := by omega
  have p1b : q1 ≤ 1048576 := by omega
  clear hq1 l1
  go_wp2_with fail
  go_ret
  exact ⟨ret_int HE2.out.symm, hb2⟩

set_option maxHeartbeats 2000000 in
theorem to_An (cs : List Value) (x : DAn) (w : World) (h : rAn.rep w cs x) (hn : bulk_An x ≤ 1048576) :
    Calls Try.prog 34 #[.agg cs.toArray] w fun e w' => ∃ us, e = .returned (.agg us.toArray) ∧ Own oAn w.heap.size w'.heap.size w' us x ∧ Below w.heap.size w w' := by
  obtain ⟨ub0, un0, uc0, ub1, un1, uc1, rfl, g0, g1⟩ := rAn_open h
  clear h
  unfold bulk_An at hn
  have hn0 : bulk_I (x.1) ≤ 1048576 := by omega
  have hn1 : bulk_II (x.2) ≤ 1048576 := by omega
  clear hn
  go_enter Try.func34, Try.ntmps34
  obtain ⟨W0, hW0⟩ : ∃ W, W = ((w.alloc (.cells #[.slice ub0 un0 uc0, .slice ub1 un1 uc1] 57)).alloc (.cells #[.slice none 0 0, .slice none 0 0] 60)).alloc (.cells #[.slice none 0 0, .slice none 0 0] 60) := ⟨_, rfl⟩
  have hB0 : Below w.heap.size w W0 := by rw [hW0]; exact (((Below.refl _ _).alloc (Nat.le_refl _) _).alloc (by simp) _).alloc (by simp <;> omega) _
  have t0 : W0.heap.size = w.heap.size + 1 + 1 + 1 := by rw [hW0]; simp
  have bp_0 : W0.cell? ⟨w.heap.size, 0, none⟩ = some (.slice ub0 un0 uc0) := by rw [hW0]; simp [go_sem, World.cell?_alloc_past]
  have bp_1 : W0.cell? ⟨w.heap.size, 1, none⟩ = some (.slice ub1 un1 uc1) := by rw [hW0]; simp [go_sem, World.cell?_alloc_past]
  have br_0 : W0.cell? ⟨w.heap.size + 1, 0, none⟩ = some (.slice none 0 0) := by rw [hW0]; simp [go_sem, World.cell?_alloc_past]
  have fr_0 : W0.frozen? ⟨w.heap.size + 1, 0, none⟩ = false := by rw [hW0]; simp [go_sem, World.frozen?_alloc_past]
  have br_1 : W0.cell? ⟨w.heap.size + 1, 1, none⟩ = some (.slice none 0 0) := by rw [hW0]; simp [go_sem, World.cell?_alloc_past]
  have fr_1 : W0.frozen? ⟨w.heap.size + 1, 1, none⟩ = false := by rw [hW0]; simp [go_sem, World.frozen?_alloc_past]
  have bo_0 : W0.cell? ⟨w.heap.size + 1 + 1, 0, none⟩ = some (.slice none 0 0) := by rw [hW0]; simp [go_sem, World.cell?_alloc_past]
  have fo_0 : W0.frozen? ⟨w.heap.size + 1 + 1, 0, none⟩ = false := by rw [hW0]; simp [go_sem, World.frozen?_alloc_past]
  have bo_1 : W0.cell? ⟨w.heap.size + 1 + 1, 1, none⟩ = some (.slice none 0 0) := by rw [hW0]; simp [go_sem, World.cell?_alloc_past]
  have fo_1 : W0.frozen? ⟨w.heap.size + 1 + 1, 1, none⟩ = false := by rw [hW0]; simp [go_sem, World.frozen?_alloc_past]
  go_wp2_with fail
  rw [← hW0]
  clear hW0
  refine (to_I _ (x.1) _ (rI.mono g0 hB0) hn0).mono ?_
  rintro e w1 ⟨a0, rfl, ho0, z1⟩
  have s1 := z1.size
  obtain ⟨ab0, an0, ac0, rfl⟩ := oI_form1 ho0
  have q1 := on hB0 z1
  replace bp_0 := (z1.cell (p := ⟨w.heap.size, 0, none⟩) (by simp only []; omega)).trans bp_0
  replace bp_1 := (z1.cell (p := ⟨w.heap.size, 1, none⟩) (by simp only []; omega)).trans bp_1
  replace br_0 := (z1.cell (p := ⟨w.heap.size + 1, 0, none⟩) (by simp only []; omega)).trans br_0
  replace fr_0 := (z1.frozen (p := ⟨w.heap.size + 1, 0, none⟩) (by simp only []; omega)).trans fr_0
  replace br_1 := (z1.cell (p := ⟨w.heap.size + 1, 1, none⟩) (by simp only []; omega)).trans br_1
  replace fr_1 := (z1.frozen (p := ⟨w.heap.size + 1, 1, none⟩) (by simp only []; omega)).trans fr_1
  replace bo_0 := (z1.cell (p := ⟨w.heap.size + 1 + 1, 0, none⟩) (by simp only []; omega)).trans bo_0
  replace fo_0 := (z1.frozen (p := ⟨w.heap.size + 1 + 1, 0, none⟩) (by simp only []; omega)).trans fo_0
  replace bo_1 := (z1.cell (p := ⟨w.heap.size + 1 + 1, 1, none⟩) (by simp only []; omega)).trans bo_1
  replace fo_1 := (z1.frozen (p := ⟨w.heap.size + 1 + 1, 1, none⟩) (by simp only []; omega)).trans fo_1
  go_wp2_with fail
  obtain ⟨W1, hW1⟩ : ∃ W, W = w1.setCell ⟨w.heap.size + 1 + 1, 0, none⟩ (.slice ab0 an0 ac0) := ⟨_, rfl⟩
  have t1 : W1.heap.size = w1.heap.size := by rw [hW1]; simp [World.setCell]
  have hB1 : Below w.heap.size w W1 := by rw [hW1]; exact q1.setCell (by simp only []; omega) _
  replace bp_0 : W1.cell? ⟨w.heap.size, 0, none⟩ = some (.slice ub0 un0 uc0) := by rw [hW1]; simp [go_sem, bp_0]
  replace bp_1 : W1.cell? ⟨w.heap.size, 1, none⟩ = some (.slice ub1 un1 uc1) := by rw [hW1]; simp [go_sem, bp_1]
  replace br_0 : W1.cell? ⟨w.heap.size + 1, 0, none⟩ = some (.slice none 0 0) := by rw [hW1]; simp [go_sem, br_0]
  replace fr_0 : W1.frozen? ⟨w.heap.size + 1, 0, none⟩ = false := by rw [hW1]; simp [go_sem, fr_0]
  replace br_1 : W1.cell? ⟨w.heap.size + 1, 1, none⟩ = some (.slice none 0 0) := by rw [hW1]; simp [go_sem, br_1]
  replace fr_1 : W1.frozen? ⟨w.heap.size + 1, 1, none⟩ = false := by rw [hW1]; simp [go_sem, fr_1]
  have bo_0' : W1.cell? ⟨w.heap.size + 1 + 1, 0, none⟩ = some (.slice ab0 an0 ac0) := by rw [hW1]; simp [go_sem, bo_0]
  clear bo_0
  have bo_0 := bo_0'
  clear bo_0'
  replace fo_0 : W1.frozen? ⟨w.heap.size + 1 + 1, 0, none⟩ = false := by rw [hW1]; simp [go_sem, fo_0]
  replace bo_1 : W1.cell? ⟨w.heap.size + 1 + 1, 1, none⟩ = some (.slice none 0 0) := by rw [hW1]; simp [go_sem, bo_1]
  replace fo_1 : W1.frozen? ⟨w.heap.size + 1 + 1, 1, none⟩ = false := by rw [hW1]; simp [go_sem, fo_1]
  replace ho0 := ho0.setOut hW1 (by simp only []; omega)
  rw [← hW1]
  clear hW1
  refine (to_II _ (x.2) _ (rII.mono g1 hB1) hn1).mono ?_
  rintro e w2 ⟨a1, rfl, ho1, z2⟩
  have s2 := z2.size
  obtain ⟨ab1, an1, ac1, rfl⟩ := oII_form1 ho1
  have q2 := on hB1 z2
  replace bp_0 := (z2.cell (p := ⟨w.heap.size, 0, none⟩) (by simp only []; omega)).trans bp_0
  replace bp_1 := (z2.cell (p := ⟨w.heap.size, 1, none⟩) (by simp only []; omega)).trans bp_1
  replace br_0 := (z2.cell (p := ⟨w.heap.size + 1, 0, none⟩) (by simp only []; omega)).trans br_0
  replace fr_0 := (z2.frozen (p := ⟨w.heap.size + 1, 0, none⟩) (by simp only []; omega)).trans fr_0
  replace br_1 := (z2.cell (p := ⟨w.heap.size + 1, 1, none⟩) (by simp only []; omega)).trans br_1
  replace fr_1 := (z2.frozen (p := ⟨w.heap.size + 1, 1, none⟩) (by simp only []; omega)).trans fr_1
  replace bo_0 := (z2.cell (p := ⟨w.heap.size + 1 + 1, 0, none⟩) (by simp only []; omega)).trans bo_0
  replace fo_0 := (z2.frozen (p := ⟨w.heap.size + 1 + 1, 0, none⟩) (by simp only []; omega)).trans fo_0
  replace bo_1 := (z2.cell (p := ⟨w.heap.size + 1 + 1, 1, none⟩) (by simp only []; omega)).trans bo_1
  replace fo_1 := (z2.frozen (p := ⟨w.heap.size + 1 + 1, 1, none⟩) (by simp only []; omega)).trans fo_1
  replace ho0 := ho0.below z2 (by omega)
  go_wp2_with fail
  refine bodyPost_ret (v := .agg #[.slice ab0 an0 ac0, .slice ab1 an1 ac1]) (by simp [results, Try.results34, go_sem, br_0, br_1, bo_0, bo_1, fr_0, fr_1, fo_0, fo_1]) rfl ⟨_, rfl, ?_, ?_⟩
  · skip
    have hS0 : ∀ (W : World) (p : Addr) (u : Value), p.block < w.heap.size + 1 + 1 + 1 → Own oI W0.heap.size w1.heap.size W [.slice ab0 an0 ac0] (x.1) → Own oI W0.heap.size w1.heap.size (W.setCell p u) [.slice ab0 an0 ac0] (x.1) := fun W p u hp k9 => k9.setOut rfl (by omega)
    have hS1 : ∀ (W : World) (p : Addr) (u : Value), p.block < w.heap.size + 1 + 1 + 1 → Own oII W1.heap.size w2.heap.size W [.slice ab1 an1 ac1] (x.2) → Own oII W1.heap.size w2.heap.size (W.setCell p u) [.slice ab1 an1 ac1] (x.2) := fun W p u hp k9 => k9.setOut rfl (by omega)
    exact oAn_mk (hS0 _ _ _ (by simp <;> omega) (hS0 _ _ _ (by simp <;> omega) (hS0 _ _ _ (by simp <;> omega) ho0))) (hS1 _ _ _ (by simp <;> omega) (hS1 _ _ _ (by simp <;> omega) (hS1 _ _ _ (by simp <;> omega) ho1))) (by omega) (by simp [World.setCell] <;> omega) (by omega) (by simp [World.setCell] <;> omega) (by omega)
  · exact (((q2.setCell (by simp <;> omega) _).setCell (by simp <;> omega) _).setCell (by simp <;> omega) _)

set_option maxHeartbeats 2000000 in
theorem eq_An (cs ds : List Value) (x y : DAn) (w : World) (h : rAn.rep w cs x) (h' : rAn.rep w ds y) :
    Calls Try.prog 36 #[.agg cs.toArray, .agg ds.toArray] w fun e w' => e = .returned (.bool (decide (x = y))) ∧ Below w.heap.size w w' := by
  obtain ⟨ub0, un0, uc0, ub1, un1, uc1, rfl, g0, g1⟩ := rAn_open h
  obtain ⟨vb0, vn0, vc0, vb1, vn1, vc1, rfl, k0, k1⟩ := rAn_open h'
  clear h h'
  have hb1 : Below w.heap.size w ((w.alloc (.cells #[.slice ub0 un0 uc0, .slice ub1 un1 uc1] 60)).alloc (.cells #[.slice vb0 vn0 vc0, .slice vb1 vn1 vc1] 60)) := ((Below.refl _ _).alloc (Nat.le_refl _) _).alloc (by simp) _
  go_enter Try.func36, Try.ntmps36
  obtain ⟨w1, hw1⟩ : ∃ W, W = (w.alloc (.cells #[.slice ub0 un0 uc0, .slice ub1 un1 uc1] 60)).alloc (.cells #[.slice vb0 vn0 vc0, .slice vb1 vn1 vc1] 60) := ⟨_, rfl⟩
  have s1 : w1.heap.size = w.heap.size + 1 + 1 := by rw [hw1]; simp
  rw [← hw1] at hb1
  have bc_0 : w1.cell? ⟨w.heap.size, 0, none⟩ = some (.slice ub0 un0 uc0) := by rw [hw1]; simp [go_sem, World.cell?_alloc_past]
  have bd_0 : w1.cell? ⟨w.heap.size + 1, 0, none⟩ = some (.slice vb0 vn0 vc0) := by rw [hw1]; simp [go_sem, World.cell?_alloc_past]
  have bc_1 : w1.cell? ⟨w.heap.size, 1, none⟩ = some (.slice ub1 un1 uc1) := by rw [hw1]; simp [go_sem, World.cell?_alloc_past]
  have bd_1 : w1.cell? ⟨w.heap.size + 1, 1, none⟩ = some (.slice vb1 vn1 vc1) := by rw [hw1]; simp [go_sem, World.cell?_alloc_past]
  go_wp2_with fail
  rw [← hw1]
  clear hw1
  refine (eq_I _ _ (x.1) (y.1) _ (rI.mono g0 hb1) (rI.mono k0 hb1)).mono ?_
  rintro e w2 ⟨rfl, z2⟩
  replace z2 : Below w1.heap.size w1 w2 := z2.below _
  have s2 := z2.size
  have hb2 := on hb1 z2
  replace bc_0 := (z2.cell (p := ⟨w.heap.size, 0, none⟩) (by simp only []; omega)).trans bc_0
  replace bd_0 := (z2.cell (p := ⟨w.heap.size + 1, 0, none⟩) (by simp only []; omega)).trans bd_0
  replace bc_1 := (z2.cell (p := ⟨w.heap.size, 1, none⟩) (by simp only []; omega)).trans bc_1
  replace bd_1 := (z2.cell (p := ⟨w.heap.size + 1, 1, none⟩) (by simp only []; omega)).trans bd_1
  by_cases e0 : x.1 = y.1
  case neg =>
    have HE := Lib.hid (show decide (x = y) = false by simp only [decide_eq_false_iff_not]; intro h9; exact e0 (by rw [h9]))
    have hne : decide (x.1 = y.1) = false := by simpa using e0
    rw [hne]
    clear e0 hne
    go_wp2_with fail
    go_ret
    exact ⟨ret_bool HE.out.symm, hb2⟩
  have E0 := Lib.hid e0
  have hq0 : decide (x.1 = y.1) = true := by simpa using e0
  rw [hq0]
  clear e0 hq0
  go_wp2_with fail
  refine (eq_II _ _ (x.2) (y.2) _ (rII.mono g1 hb2) (rII.mono k1 hb2)).mono ?_
  rintro e w3 ⟨rfl, z3⟩
  have s3 := z3.size
  have hb3 := on hb2 z3
  replace bc_0 := (z3.cell (p := ⟨w.heap.size, 0, none⟩) (by simp only []; omega)).trans bc_0
  replace bd_0 := (z3.cell (p := ⟨w.heap.size + 1, 0, none⟩) (by simp only []; omega)).trans bd_0
  replace bc_1 := (z3.cell (p := ⟨w.heap.size, 1, none⟩) (by simp only []; omega)).trans bc_1
  replace bd_1 := (z3.cell (p := ⟨w.heap.size + 1, 1, none⟩) (by simp only []; omega)).trans bd_1
  by_cases e1 : x.2 = y.2
  case neg =>
    have HE := Lib.hid (show decide (x = y) = false by simp only [decide_eq_false_iff_not]; intro h9; exact e1 (by rw [h9]))
    have hne : decide (x.2 = y.2) = false := by simpa using e1
    rw [hne]
    clear e1 hne
    go_wp2_with fail
    go_ret
    exact ⟨ret_bool HE.out.symm, hb3⟩
  have E1 := Lib.hid e1
  have hq1 : decide (x.2 = y.2) = true := by simpa using e1
  rw [hq1]
  clear e1 hq1
  have HE := Lib.hid (show decide (x = y) = true by simp only [decide_eq_true_eq]; exact Prod.ext E0.out (E1.out))
  go_wp2_with fail
  go_ret
  exact ⟨ret_bool HE.out.symm, hb3⟩

end Go.Proofs.Ythhbmbkecaffeaa

/- Kind As: shape, size, copy, comparison. Written by a program. -/
namespace Go.Proofs.Ythhbmbkecaffeaa
open Go.RowKit
set_option linter.unusedVariables false
set_option linter.unusedSimpArgs false
set_option synthInstance.maxSize 2000
set_option synthInstance.maxHeartbeats 400000

def rAs : RS (List DA) := R.slice rA
def oAs : OS (List DA) := O.slice 80 oA
theorem reads_As : Reads oAs rAs := Reads.slice _ reads_A
theorem rAs_form {w : World} {cs : List Value} {xs : List DA} (h : rAs.rep w cs xs) : ∃ b n c, cs = [.slice b n c] := rS_form h
theorem oAs_form1 {lo hi : Nat} {w : World} {v : Value} {xs : List DA} (h : Own oAs lo hi w [v] xs) : ∃ b n c, v = .slice b n c := oS_form1 reads_A h
def bulk_As (xs : List DA) : Nat := xs.length + sumBy bulk_A xs

set_option maxHeartbeats 1000000 in
theorem sz_As (v : Value) (xs : List DA) (left : Int) (w : World) (h : rAs.rep w [v] xs) (h0 : 0 ≤ left) (h1 : left ≤ 1048576) :
    Calls Try.prog 50 #[v, .int .i64 left] w fun e w' => e = .returned (.int .i64 (szR left (bulk_As xs))) ∧ Below w.heap.size w w' := by
  obtain ⟨a, cap, rfl, hn1, hn2, hi⟩ := rS_open h
  clear h
  unfold bulk_As
  have hsm := hi.small
  obtain ⟨n, hlen⟩ : ∃ n, xs.length = n := ⟨_, rfl⟩
  rw [hlen] at hi hsm hn1 ⊢
  by_cases hl : (n : Int) ≤ left
  case neg =>
    have HE := Lib.hid (szR_no (sumBy bulk_A xs) hl)
    clear hi
    go_enter Try.func50, Try.ntmps50
    go_wp2_with fail
    go_ret
    exact ⟨ret_int HE.out.symm, Below.refl _ _⟩
  have HE := Lib.hid (szR_add (b := sumBy bulk_A xs) hl)
  go_enter Try.func50, Try.ntmps50
  go_wp2_with fail
  go_loopw [1, 5] (fun l i wr => ∃ (j : Nat) (q : Int), j ≤ n ∧ i = .int .i64 j ∧ l = .int .i64 q ∧ 0 ≤ q ∧ q ≤ 1048576 ∧ Hid (szR left (n + sumBy bulk_A xs) = szR q (sumBy bulk_A (xs.drop j))) ∧ Below w.heap.size w wr) (fun _ i _ => n - (intOf i).toNat)
  case atStart => exact ⟨0, left - n, Nat.zero_le _, rfl, rfl, by omega, by omega, HE.out, Below.refl _ _⟩
  case round =>
    obtain ⟨j, q, hj, rfl, rfl, q0, q1, hE, hb⟩ := hrel
    clear HE
    by_cases hlt : j < n
    · obtain ⟨b, off, cs, x, rfl, hx, hr, hc⟩ := (hi.below hb).at hlt
      obtain ⟨ub1, un1, uc1, rfl⟩ := rA_form hr
      have c0 : wr.cell? ⟨b, off + j * 2, none⟩ = some (.string x.1) := by have h9 := hc 0 _ rfl; rw [← Nat.add_assoc] at h9; exact h9
      have c1 : wr.cell? ⟨b, off + j * 2 + 1, none⟩ = some (.slice ub1 un1 uc1) := by have h9 := hc 1 _ rfl; rw [← Nat.add_assoc] at h9; exact h9
      clear hc
      have HS := hE.out.trans (congrArg (szR q) (sumBy_drop bulk_A hx.out))
      have hcs := szR_cases q (bulk_A x)
      have hcall := sz_A _ x q wr hr q0 q1
      obtain ⟨p, hp⟩ : ∃ p, p = szR q (bulk_A x) := ⟨_, rfl⟩
      rw [← hp] at hcall hcs
      have HC := Lib.hid hcall
      clear hcall hi
      rcases hcs with ⟨rfl, l⟩ | ⟨hp2, l⟩
      · have HE := Lib.hid (HS.trans (szR_no _ l))
        clear hp HS l hE
        go_wp2_with fail
        refine HC.out.mono ?_
        rintro e w1 ⟨rfl, z1⟩
        go_wp2_with fail
        go_ret
        exact ⟨ret_int HE.out.symm, on hb z1⟩
      · have HE := Lib.hid (HS.trans ((szR_add l).trans (by rw [← hp2])) : szR left (n + sumBy bulk_A xs) = szR p (sumBy bulk_A (xs.drop (j + 1))))
        have p0 : 0 ≤ p := by omega
        have p1 : p ≤ 1048576 := by omega
        clear hp hp2 HS l hE
        go_wp2_with fail
        refine HC.out.mono ?_
        rintro e w1 ⟨rfl, z1⟩
        go_wp2_with fail
        go_roundw
        case rel => exact ⟨j + 1, p, by omega, by go_num, rfl, p0, p1, HE, on hb z1⟩
        case measure => simp [intOf]; omega
    · have HE := Lib.hid (hE.out.trans (by rw [sumBy_end _ (by omega)]; unfold szR; rw [if_pos (by omega)]; simp) : szR left (n + sumBy bulk_A xs) = q)
      clear hi hE
      go_wp2_with fail
      go_ret
      exact ⟨ret_int HE.out.symm, hb⟩

set_option maxHeartbeats 2000000 in
set_option maxRecDepth 100000 in
theorem to_As (v : Value) (xs : List DA) (w : World) (h : rAs.rep w [v] xs) (hn : bulk_As xs ≤ 1048576) :
    Calls Try.prog 53 #[v] w fun e w' => ∃ u, e = .returned u ∧ Own oAs w.heap.size w'.heap.size w' [u] xs ∧ Below w.heap.size w w' := by
  obtain ⟨a, cap, rfl, hn1, hn2, hi⟩ := rS_open h
  clear h
  unfold bulk_As at hn
  obtain ⟨n, hlen⟩ : ∃ n, xs.length = n := ⟨_, rfl⟩
  rw [hlen] at hi hn hn1 ⊢
  have hbk : ∀ (j : Nat) x, xs[j]? = some x → bulk_A x ≤ 1048576 := fun j x hx => by have := sumBy_mem bulk_A hx; omega
  have hn3 : n ≤ 100000000 := by omega
  clear hn
  go_enter Try.func53, Try.ntmps53
  go_wp2_with (at_make; refine wpList_mkS (size := 2) (bytes := 40) (z := .agg #[.string ⟨#[]⟩, .slice none 0 0]) rfl rfl rfl (by decide) (by decide) oA xs _ _ n hn3 rfl rfl rfl rfl ?_; intro w1 hp1 hb1 hz1)
  go_wp2_with fail
  go_loopw [4] (fun k wr => ∃ j : Nat, j ≤ n ∧ k = .int .i64 j ∧ Part 80 oA [.string ⟨#[]⟩, .slice none 0 0] w.heap.size wr w.heap.size n j xs ∧ Below w.heap.size w wr) (fun k _ => n - (intOf k).toNat)
  case atStart => exact ⟨0, Nat.zero_le _, rfl, hp1, hb1⟩
  case round =>
    obtain ⟨j, hj, rfl, hp, hb⟩ := hrel
    clear hp1 hb1
    by_cases hlt : j < n
    · obtain ⟨b, off, cs, x, rfl, hx, hr, hc⟩ := (hi.below hb).at hlt
      obtain ⟨ub1, un1, uc1, rfl⟩ := rA_form hr
      have c0 : wr.cell? ⟨b, off + j * 2, none⟩ = some (.string x.1) := by have h9 := hc 0 _ rfl; rw [← Nat.add_assoc] at h9; exact h9
      have c1 : wr.cell? ⟨b, off + j * 2 + 1, none⟩ = some (.slice ub1 un1 uc1) := by have h9 := hc 1 _ rfl; rw [← Nat.add_assoc] at h9; exact h9
      clear hc
      have hg : w.heap.size < wr.heap.size := by obtain ⟨_, _, _, _, _, _, _, h9⟩ := hp; exact h9
      have HC := Lib.hid (to_A _ x wr hr (hbk j x hx.out))
      have HI := Lib.hid hi
      go_wp2_with fail
      refine HC.out.mono ?_
      rintro e w1 ⟨d, rfl, ho, z1⟩
      obtain ⟨db1, dn1, dc1, rfl⟩ := oA_form ho
      have s1 := z1.size
      have hp1 : Part 80 oA [.string ⟨#[]⟩, .slice none 0 0] w.heap.size w1 w.heap.size n j xs := hp.below z1 (Nat.le_refl _)
      obtain ⟨⟨e0, f0⟩, g0⟩ := hp1.cell rfl hlt (by omega) 0 (by decide)
      replace f0 : w1.cell? ⟨w.heap.size, j * 2, none⟩ = some e0 := f0
      replace g0 : w1.frozen? ⟨w.heap.size, j * 2, none⟩ = false := g0
      obtain ⟨⟨e1, f1⟩, g1⟩ := hp1.cell rfl hlt (by omega) 1 (by decide)
      replace f1 : w1.cell? ⟨w.heap.size, j * 2 + 1, none⟩ = some e1 := f1
      replace g1 : w1.frozen? ⟨w.heap.size, j * 2 + 1, none⟩ = false := g1
      have HP := Lib.hid (hp1.step (cs := [.string x.1, .slice db1 dn1 dc1]) rfl hlt hx.out ho hg ⟨wr, hp, Nat.le_refl _, fun p hp => z1.block p hp⟩ (Nat.le_refl _) (by omega))
      have hb1 := on hb z1
      clear ho hp hp1
      go_wp2_with fail
      go_roundw
      case rel => exact ⟨j + 1, by omega, by go_num, HP.out, ((hb1.setCell (Nat.le_refl _) _).setCell (Nat.le_refl _) _)⟩
      case measure => simp [intOf]; omega
    · have hjn : j = n := by omega
      subst hjn
      have HO := Lib.hid (hp.done hlen (by omega))
      clear hp hi
      go_wp2_with fail
      go_ret
      exact ⟨_, rfl, HO.out, hb⟩

set_option maxHeartbeats 2000000 in
theorem eq_As (u v : Value) (xs ys : List DA) (w : World) (h : rAs.rep w [u] xs) (h' : rAs.rep w [v] ys) :
    Calls Try.prog 57 #[u, v] w fun e w' => e = .returned (.bool (decide (xs = ys))) ∧ Below w.heap.size w w' := by
  obtain ⟨a, cap, rfl, _, _, hi⟩ := rS_open h
  obtain ⟨a', cap', rfl, _, _, hi'⟩ := rS_open h'
  clear h h'
  have hn := hi.small
  have hn' := hi'.small
  obtain ⟨n, hl⟩ : ∃ n, xs.length = n := ⟨_, rfl⟩
  obtain ⟨m, hl'⟩ : ∃ n, ys.length = n := ⟨_, rfl⟩
  rw [hl] at hi hn ⊢
  rw [hl'] at hi' hn' ⊢
  by_cases hnm : n = m
  case neg =>
    have HE := Lib.hid (show decide (xs = ys) = false by simp only [decide_eq_false_iff_not]; intro e; subst e; omega)
    have hne : ((n : Int) != (m : Int)) = true := by rw [bne_iff_ne]; omega
    clear hl hl' hi hi'
    go_enter Try.func57, Try.ntmps57
    go_wp2_with fail
    go_ret
    exact ⟨ret_bool HE.out.symm, Below.refl _ _⟩
  subst hnm
  go_enter Try.func57, Try.ntmps57
  go_wp2_with fail
  go_loopw [5] (fun k wr => ∃ j : Nat, j ≤ n ∧ k = .int .i64 j ∧ Hid (xs.take j = ys.take j) ∧ Below w.heap.size w wr) (fun k _ => n - (intOf k).toNat)
  case atStart => exact ⟨0, Nat.zero_le _, rfl, rfl, Below.refl _ _⟩
  case round =>
    obtain ⟨j, hj, rfl, hE, hb⟩ := hrel
    by_cases hlt : j < n
    · obtain ⟨b, off, cs, x, rfl, hx, hr, hc⟩ := (hi.below hb).at hlt
      obtain ⟨b', off', ds, y, rfl, hy, hr', hd⟩ := (hi'.below hb).at hlt
      obtain ⟨ub1, un1, uc1, rfl⟩ := rA_form hr
      obtain ⟨vb1, vn1, vc1, rfl⟩ := rA_form hr'
      have c0 : wr.cell? ⟨b, off + j * 2, none⟩ = some (.string x.1) := by have h9 := hc 0 _ rfl; rw [← Nat.add_assoc] at h9; exact h9
      have c1 : wr.cell? ⟨b, off + j * 2 + 1, none⟩ = some (.slice ub1 un1 uc1) := by have h9 := hc 1 _ rfl; rw [← Nat.add_assoc] at h9; exact h9
      have d0 : wr.cell? ⟨b', off' + j * 2, none⟩ = some (.string y.1) := by have h9 := hd 0 _ rfl; rw [← Nat.add_assoc] at h9; exact h9
      have d1 : wr.cell? ⟨b', off' + j * 2 + 1, none⟩ = some (.slice vb1 vn1 vc1) := by have h9 := hd 1 _ rfl; rw [← Nat.add_assoc] at h9; exact h9
      have hcall := fun (W : World) (hW : Below wr.heap.size wr W) => eq_A _ _ x y W (rA.mono hr hW) (rA.mono hr' hW)
      obtain ⟨t, ht⟩ : ∃ t, t = decide (x = y) := ⟨_, rfl⟩
      rw [← ht] at hcall
      have HC := Lib.hid hcall
      clear hcall hi hi' hr hr' hc hd
      have HT : Hid (if t = true then xs.take (j + 1) = ys.take (j + 1) else decide (xs = ys) = false) := by
        cases t
        · simp only [Bool.false_eq_true, if_false]
          have hxy : x ≠ y := by simpa using ht.symm
          simp only [Hid, Bool.false_eq_true, if_false, decide_eq_false_iff_not]; intro e; subst e; exact hxy (Option.some.inj (hx.out.symm.trans hy.out))
        · have hxy : x = y := by simpa using ht.symm
          simp only [Hid, if_true]; rw [take_snoc' xs j x hx.out, take_snoc' ys j y hy.out, hE.out, hxy]
      clear ht hx hy hE
      have lb : b < wr.heap.size := cell_lt c0
      have lb' : b' < wr.heap.size := cell_lt d0
      go_wp2_with fail
      go_region_held3 (fun W => W.cell? ⟨b, off + j * 2, none⟩ = some (.string x.1) ∧ W.cell? ⟨b, off + j * 2 + 1, none⟩ = some (.slice ub1 un1 uc1) ∧ W.cell? ⟨b', off' + j * 2, none⟩ = some (.string y.1) ∧ W.cell? ⟨b', off' + j * 2 + 1, none⟩ = some (.slice vb1 vn1 vc1)) (first | exact ⟨c0, c1, d0, d1⟩ | assumption) ((go_at_call 99; refine (HC.out _ (Below.refl _ _).drew).mono ?_; rintro e w1 ⟨rfl, z1⟩; replace z1 : Below wr.heap.size wr w1 := (Below.refl _ _).drew.trans z1; have hS0 := (⟨(z1.cell (p := ⟨b, off + j * 2, none⟩) (by simp only []; omega)).trans c0, (z1.cell (p := ⟨b, off + j * 2 + 1, none⟩) (by simp only []; omega)).trans c1, (z1.cell (p := ⟨b', off' + j * 2, none⟩) (by simp only []; omega)).trans d0, (z1.cell (p := ⟨b', off' + j * 2 + 1, none⟩) (by simp only []; omega)).trans d1⟩ : (fun W => W.cell? ⟨b, off + j * 2, none⟩ = some (.string x.1) ∧ W.cell? ⟨b, off + j * 2 + 1, none⟩ = some (.slice ub1 un1 uc1) ∧ W.cell? ⟨b', off' + j * 2, none⟩ = some (.string y.1) ∧ W.cell? ⟨b', off' + j * 2 + 1, none⟩ = some (.slice vb1 vn1 vc1)) w1)))
      replace z1 : Below wr.heap.size wr w1 := z1
      have z2 := on hb z1
      cases t
      · have HE : Hid (decide (xs = ys) = false) := by simpa [Hid] using HT.out
        go_wp2_with fail
        go_ret
        exact ⟨ret_bool HE.out.symm, z2⟩
      · have HE : Hid (xs.take (j + 1) = ys.take (j + 1)) := by simpa [Hid] using HT.out
        go_wp2_with fail
        go_roundw
        case rel => exact ⟨j + 1, by omega, by go_num, HE.out, z2⟩
        case measure => simp [intOf]; omega
    · have HE := Lib.hid (show decide (xs = ys) = true by
        have e := hE.out
        rw [List.take_of_length_le (by omega), List.take_of_length_le (by omega)] at e
        simp [e])
      clear hi hi' hl hl'
      go_wp2_with fail
      go_ret
      exact ⟨ret_bool HE.out.symm, hb⟩

end Go.Proofs.Ythhbmbkecaffeaa

/- Kind T: shape, size, copy, comparison. Written by a program. -/
namespace Go.Proofs.Ythhbmbkecaffeaa
open Go.RowKit
set_option linter.unusedVariables false
set_option linter.unusedSimpArgs false
set_option synthInstance.maxSize 2000
set_option synthInstance.maxHeartbeats 400000

abbrev DT := ByteArray × Int × List (List Int)
def rT : RS DT := R.pair R.str (R.pair R.int rII)
def oT : OS DT := O.pair O.str (O.pair O.int oII)
theorem reads_T : Reads oT rT := Reads.pair Reads.str (Reads.pair Reads.int reads_II)
theorem rT_open {w : World} {cs : List Value} {x : DT} (h : rT.rep w cs x) : ∃ ub2 un2 uc2, cs = [.string x.1, .int .i64 x.2.1, .slice ub2 un2 uc2] ∧ x.1.size ≤ 9223372036854775807 ∧ I64 x.2.1 ∧ rII.rep w [.slice ub2 un2 uc2] x.2.2 := by
  obtain ⟨c0a, c0b, rfl, ⟨rfl, hs0⟩, ⟨c1a, c1b, rfl, ⟨rfl, hi1⟩, hr2⟩⟩ := h
  obtain ⟨ub2, un2, uc2, rfl⟩ := rII_form hr2
  exact ⟨_, _, _, rfl, hs0, hi1, hr2⟩
theorem rT_form {w : World} {cs : List Value} {x : DT} (h : rT.rep w cs x) : ∃ ub2 un2 uc2, cs = [.string x.1, .int .i64 x.2.1, .slice ub2 un2 uc2] := by
  obtain ⟨ub2, un2, uc2, h1, _⟩ := rT_open h
  exact ⟨_, _, _, h1⟩
theorem rT_mk {w : World} {ub2 : Option Addr} {un2 uc2 : Nat} {x : DT} (h0 : x.1.size ≤ 9223372036854775807) (h1 : I64 x.2.1) (h2 : rII.rep w [.slice ub2 un2 uc2] x.2.2) : rT.rep w [.string x.1, .int .i64 x.2.1, .slice ub2 un2 uc2] x :=
  ⟨[.string x.1], [.int .i64 x.2.1, .slice ub2 un2 uc2], rfl, ⟨rfl, h0⟩, ⟨[.int .i64 x.2.1], [.slice ub2 un2 uc2], rfl, ⟨rfl, h1⟩, h2⟩⟩
theorem oT_form {lo hi : Nat} {w : World} {cs : List Value} {x : DT} (h : Own oT lo hi w cs x) : ∃ ub2 un2 uc2, cs = [.string x.1, .int .i64 x.2.1, .slice ub2 un2 uc2] := rT_form (h.rd reads_T)

theorem oT_mk {lo hi l2 m2 : Nat} {w : World} {ub2 : Option Addr} {un2 uc2 : Nat} {x : DT} (hs0 : x.1.size ≤ 9223372036854775807) (hi1 : I64 x.2.1) (ho2 : Own oII l2 m2 w [.slice ub2 un2 uc2] x.2.2) (a2 : lo ≤ l2) (b2 : m2 ≤ hi)  : Own oT lo hi w [.string x.1, .int .i64 x.2.1, .slice ub2 un2 uc2] x := by
  obtain ⟨f2, r2, n2, q2⟩ := ho2
  refine ⟨([] ++ ([] ++ f2)), ⟨[.string x.1], [.int .i64 x.2.1, .slice ub2 un2 uc2], [], ([] ++ f2), rfl, rfl, ⟨rfl, hs0, rfl⟩, ⟨[.int .i64 x.2.1], [.slice ub2 un2 uc2], [], f2, rfl, rfl, ⟨rfl, hi1, rfl⟩, r2⟩⟩, ?_, ?_⟩
  · try simp only [List.nil_append, List.append_nil]
    exact n2
  · intro p hp
    try simp only [List.nil_append, List.append_nil, List.mem_append] at hp
    have := q2 p hp; omega

def bulk_T (x : DT) : Nat := (x.1.size) + (bulk_II x.2.2)

set_option maxHeartbeats 1000000 in
theorem sz_T (cs : List Value) (x : DT) (left : Int) (w : World) (h : rT.rep w cs x) (h0 : 0 ≤ left) (h1 : left ≤ 1048576) :
    Calls Try.prog 105 #[.agg cs.toArray, .int .i64 left] w fun e w' => e = .returned (.int .i64 (szR left (bulk_T x))) ∧ Below w.heap.size w w' := by
  obtain ⟨ub2, un2, uc2, rfl, g0, g1, g2⟩ := rT_open h
  clear h
  have HE0 : Hid (szR left (bulk_T x) = szR left ((x.1.size) + (bulk_II x.2.2))) := rfl
  go_enter Try.func105, Try.ntmps105
  obtain ⟨w1, hw1⟩ : ∃ W, W = w.alloc (.cells #[.string x.1, .int .i64 x.2.1, .slice ub2 un2 uc2] 128) := ⟨_, rfl⟩
  have z1 : Below w.heap.size w w1 := by rw [hw1]; exact (Below.refl _ _).alloc (Nat.le_refl _) _
  have s1 : w1.heap.size = w.heap.size + 1 := by rw [hw1]; simp
  have bp_0 : w1.cell? ⟨w.heap.size, 0, none⟩ = some (.string x.1) := by rw [hw1]; exact box_cell (Below.refl _ _) rfl
  have bp_1 : w1.cell? ⟨w.heap.size, 1, none⟩ = some (.int .i64 x.2.1) := by rw [hw1]; exact box_cell (Below.refl _ _) rfl
  have bp_2 : w1.cell? ⟨w.heap.size, 2, none⟩ = some (.slice ub2 un2 uc2) := by rw [hw1]; exact box_cell (Below.refl _ _) rfl
  have hb1 := z1
  by_cases l0 : (x.1.size : Int) ≤ left
  case neg =>
    have HE := Lib.hid (HE0.out.trans (szR_no _ l0))
    go_wp2_with fail
    go_ret
    exact ⟨ret_int HE.out.symm, by first | exact hb1 | (have h9 := hb1; rw [hw1] at h9; exact h9)⟩
  have HE1 := Lib.hid (HE0.out.trans (szR_add l0))
  go_wp2_with fail
  rw [← hw1]
  clear hw1
  refine (sz_II _ (x.2.2) _ _ (rII.mono g2 hb1) (by omega) (by omega)).mono ?_
  rintro e w2 ⟨rfl, z2⟩
  have s2 := z2.size
  have hb2 := on hb1 z2
  replace bp_0 := (z2.cell (p := ⟨w.heap.size, 0, none⟩) (by simp only []; omega)).trans bp_0
  replace bp_1 := (z2.cell (p := ⟨w.heap.size, 1, none⟩) (by simp only []; omega)).trans bp_1
  replace bp_2 := (z2.cell (p := ⟨w.heap.size, 2, none⟩) (by simp only []; omega)).trans bp_2
  obtain ⟨q2, hq2⟩ : ∃ q, q = szR (left - x.1.size) (bulk_II (x.2.2)) := ⟨_, rfl⟩
  rw [← hq2]
  have hc2 := szR_cases (left - x.1.size) (bulk_II (x.2.2))
  rw [← hq2] at hc2
  clear hq2
  rcases hc2 with ⟨rfl, l2⟩ | ⟨hq2, l2⟩
  · have HE := Lib.hid (HE1.out.trans (szR_no0 l2))
    clear l2
    go_wp2_with fail
    go_ret
    exact ⟨ret_int HE.out.symm, hb2⟩
  have HE2 := Lib.hid (HE1.out.trans ((szR_yes l2).trans (by rw [hq2])) : szR left (bulk_T x) = q2)
  have p2 : 0 ≤ q2 := by omega
  have p2b : q2 ≤ 1048576 := by omega
  clear hq2 l2
  go_wp2_with fail
  go_ret
  exact ⟨ret_int HE2.out.symm, hb2⟩

set_option maxHeartbeats 2000000 in
theorem to_T (cs : List Value) (x : DT) (w : World) (h : rT.rep w cs x) (hn : bulk_T x ≤ 1048576) :
    Calls Try.prog 108 #[.agg cs.toArray] w fun e w' => ∃ us, e = .returned (.agg us.toArray) ∧ Own oT w.heap.size w'.heap.size w' us x ∧ Below w.heap.size w w' := by
  obtain ⟨ub2, un2, uc2, rfl, g0, g1, g2⟩ := rT_open h
  clear h
  unfold bulk_T at hn
  have hn2 : bulk_II (x.2.2) ≤ 1048576 := by omega
  clear hn
  go_enter Try.func108, Try.ntmps108
  obtain ⟨W0, hW0⟩ : ∃ W, W = ((w.alloc (.cells #[.string x.1, .int .i64 x.2.1, .slice ub2 un2 uc2] 128)).alloc (.cells #[.string ⟨#[]⟩, .int .i64 0, .slice none 0 0] 91)).alloc (.cells #[.string x.1, .int .i64 x.2.1, .slice none 0 0] 91) := ⟨_, rfl⟩
  have hB0 : Below w.heap.size w W0 := by rw [hW0]; exact (((Below.refl _ _).alloc (Nat.le_refl _) _).alloc (by simp) _).alloc (by simp <;> omega) _
  have t0 : W0.heap.size = w.heap.size + 1 + 1 + 1 := by rw [hW0]; simp
  have bp_0 : W0.cell? ⟨w.heap.size, 0, none⟩ = some (.string x.1) := by rw [hW0]; simp [go_sem, World.cell?_alloc_past]
  have bp_1 : W0.cell? ⟨w.heap.size, 1, none⟩ = some (.int .i64 x.2.1) := by rw [hW0]; simp [go_sem, World.cell?_alloc_past]
  have bp_2 : W0.cell? ⟨w.heap.size, 2, none⟩ = some (.slice ub2 un2 uc2) := by rw [hW0]; simp [go_sem, World.cell?_alloc_past]
  have br_0 : W0.cell? ⟨w.heap.size + 1, 0, none⟩ = some (.string ⟨#[]⟩) := by rw [hW0]; simp [go_sem, World.cell?_alloc_past]
  have fr_0 : W0.frozen? ⟨w.heap.size + 1, 0, none⟩ = false := by rw [hW0]; simp [go_sem, World.frozen?_alloc_past]
  have br_1 : W0.cell? ⟨w.heap.size + 1, 1, none⟩ = some (.int .i64 0) := by rw [hW0]; simp [go_sem, World.cell?_alloc_past]
  have fr_1 : W0.frozen? ⟨w.heap.size + 1, 1, none⟩ = false := by rw [hW0]; simp [go_sem, World.frozen?_alloc_past]
  have br_2 : W0.cell? ⟨w.heap.size + 1, 2, none⟩ = some (.slice none 0 0) := by rw [hW0]; simp [go_sem, World.cell?_alloc_past]
  have fr_2 : W0.frozen? ⟨w.heap.size + 1, 2, none⟩ = false := by rw [hW0]; simp [go_sem, World.frozen?_alloc_past]
  have bo_0 : W0.cell? ⟨w.heap.size + 1 + 1, 0, none⟩ = some (.string x.1) := by rw [hW0]; simp [go_sem, World.cell?_alloc_past]
  have fo_0 : W0.frozen? ⟨w.heap.size + 1 + 1, 0, none⟩ = false := by rw [hW0]; simp [go_sem, World.frozen?_alloc_past]
  have bo_1 : W0.cell? ⟨w.heap.size + 1 + 1, 1, none⟩ = some (.int .i64 x.2.1) := by rw [hW0]; simp [go_sem, World.cell?_alloc_past]
  have fo_1 : W0.frozen? ⟨w.heap.size + 1 + 1, 1, none⟩ = false := by rw [hW0]; simp [go_sem, World.frozen?_alloc_past]
  have bo_2 : W0.cell? ⟨w.heap.size + 1 + 1, 2, none⟩ = some (.slice none 0 0) := by rw [hW0]; simp [go_sem, World.cell?_alloc_past]
  have fo_2 : W0.frozen? ⟨w.heap.size + 1 + 1, 2, none⟩ = false := by rw [hW0]; simp [go_sem, World.frozen?_alloc_past]
  go_wp2_with fail
  rw [← hW0]
  clear hW0
  refine (to_II _ (x.2.2) _ (rII.mono g2 hB0) hn2).mono ?_
  rintro e w1 ⟨a2, rfl, ho2, z1⟩
  have s1 := z1.size
  obtain ⟨ab2, an2, ac2, rfl⟩ := oII_form1 ho2
  have q1 := on hB0 z1
  replace bp_0 := (z1.cell (p := ⟨w.heap.size, 0, none⟩) (by simp only []; omega)).trans bp_0
  replace bp_1 := (z1.cell (p := ⟨w.heap.size, 1, none⟩) (by simp only []; omega)).trans bp_1
  replace bp_2 := (z1.cell (p := ⟨w.heap.size, 2, none⟩) (by simp only []; omega)).trans bp_2
  replace br_0 := (z1.cell (p := ⟨w.heap.size + 1, 0, none⟩) (by simp only []; omega)).trans br_0
  replace fr_0 := (z1.frozen (p := ⟨w.heap.size + 1, 0, none⟩) (by simp only []; omega)).trans fr_0
  replace br_1 := (z1.cell (p := ⟨w.heap.size + 1, 1, none⟩) (by simp only []; omega)).trans br_1
  replace fr_1 := (z1.frozen (p := ⟨w.heap.size + 1, 1, none⟩) (by simp only []; omega)).trans fr_1
  replace br_2 := (z1.cell (p := ⟨w.heap.size + 1, 2, none⟩) (by simp only []; omega)).trans br_2
  replace fr_2 := (z1.frozen (p := ⟨w.heap.size + 1, 2, none⟩) (by simp only []; omega)).trans fr_2
  replace bo_0 := (z1.cell (p := ⟨w.heap.size + 1 + 1, 0, none⟩) (by simp only []; omega)).trans bo_0
  replace fo_0 := (z1.frozen (p := ⟨w.heap.size + 1 + 1, 0, none⟩) (by simp only []; omega)).trans fo_0
  replace bo_1 := (z1.cell (p := ⟨w.heap.size + 1 + 1, 1, none⟩) (by simp only []; omega)).trans bo_1
  replace fo_1 := (z1.frozen (p := ⟨w.heap.size + 1 + 1, 1, none⟩) (by simp only []; omega)).trans fo_1
  replace bo_2 := (z1.cell (p := ⟨w.heap.size + 1 + 1, 2, none⟩) (by simp only []; omega)).trans bo_2
  replace fo_2 := (z1.frozen (p := ⟨w.heap.size + 1 + 1, 2, none⟩) (by simp only []; omega)).trans fo_2
  go_wp2_with fail
  refine bodyPost_ret (v := .agg #[.string x.1, .int .i64 x.2.1, .slice ab2 an2 ac2]) (by simp [results, Try.results108, go_sem, br_0, br_1, br_2, bo_0, bo_1, bo_2, fr_0, fr_1, fr_2, fo_0, fo_1, fo_2]) rfl ⟨_, rfl, ?_, ?_⟩
  · skip
    have hS2 : ∀ (W : World) (p : Addr) (u : Value), p.block < w.heap.size + 1 + 1 + 1 → Own oII W0.heap.size w1.heap.size W [.slice ab2 an2 ac2] (x.2.2) → Own oII W0.heap.size w1.heap.size (W.setCell p u) [.slice ab2 an2 ac2] (x.2.2) := fun W p u hp k9 => k9.setOut rfl (by omega)
    exact oT_mk g0 g1 (hS2 _ _ _ (by simp <;> omega) (hS2 _ _ _ (by simp <;> omega) (hS2 _ _ _ (by simp <;> omega) (hS2 _ _ _ (by simp <;> omega) ho2)))) (by omega) (by simp [World.setCell] <;> omega) 
  · exact ((((q1.setCell (by simp <;> omega) _).setCell (by simp <;> omega) _).setCell (by simp <;> omega) _).setCell (by simp <;> omega) _)

set_option maxHeartbeats 2000000 in
theorem eq_T (cs ds : List Value) (x y : DT) (w : World) (h : rT.rep w cs x) (h' : rT.rep w ds y) :
    Calls Try.prog 113 #[.agg cs.toArray, .agg ds.toArray] w fun e w' => e = .returned (.bool (decide (x = y))) ∧ Below w.heap.size w w' := by
  obtain ⟨ub2, un2, uc2, rfl, g0, g1, g2⟩ := rT_open h
  obtain ⟨vb2, vn2, vc2, rfl, k0, k1, k2⟩ := rT_open h'
  clear h h'
  have hb1 : Below w.heap.size w ((w.alloc (.cells #[.string x.1, .int .i64 x.2.1, .slice ub2 un2 uc2] 91)).alloc (.cells #[.string y.1, .int .i64 y.2.1, .slice vb2 vn2 vc2] 91)) := ((Below.refl _ _).alloc (Nat.le_refl _) _).alloc (by simp) _
  go_enter Try.func113, Try.ntmps113
  obtain ⟨w1, hw1⟩ : ∃ W, W = (w.alloc (.cells #[.string x.1, .int .i64 x.2.1, .slice ub2 un2 uc2] 91)).alloc (.cells #[.string y.1, .int .i64 y.2.1, .slice vb2 vn2 vc2] 91) := ⟨_, rfl⟩
  have s1 : w1.heap.size = w.heap.size + 1 + 1 := by rw [hw1]; simp
  rw [← hw1] at hb1
  have bc_0 : w1.cell? ⟨w.heap.size, 0, none⟩ = some (.string x.1) := by rw [hw1]; simp [go_sem, World.cell?_alloc_past]
  have bd_0 : w1.cell? ⟨w.heap.size + 1, 0, none⟩ = some (.string y.1) := by rw [hw1]; simp [go_sem, World.cell?_alloc_past]
  have bc_1 : w1.cell? ⟨w.heap.size, 1, none⟩ = some (.int .i64 x.2.1) := by rw [hw1]; simp [go_sem, World.cell?_alloc_past]
  have bd_1 : w1.cell? ⟨w.heap.size + 1, 1, none⟩ = some (.int .i64 y.2.1) := by rw [hw1]; simp [go_sem, World.cell?_alloc_past]
  have bc_2 : w1.cell? ⟨w.heap.size, 2, none⟩ = some (.slice ub2 un2 uc2) := by rw [hw1]; simp [go_sem, World.cell?_alloc_past]
  have bd_2 : w1.cell? ⟨w.heap.size + 1, 2, none⟩ = some (.slice vb2 vn2 vc2) := by rw [hw1]; simp [go_sem, World.cell?_alloc_past]
  by_cases e0 : x.1 = y.1
  case neg =>
    have HE := Lib.hid (show decide (x = y) = false by simp only [decide_eq_false_iff_not]; intro h9; exact e0 (by rw [h9]))
    have hne := bytes_ne e0
    clear e0
    go_wp2_with fail
    go_ret
    exact ⟨ret_bool HE.out.symm, by first | exact hb1 | (rw [hw1] at hb1; exact hb1)⟩
  have E0 := Lib.hid e0
  have hq0 : (x.1.toList == y.1.toList) = true := by rw [e0]; simp
  clear e0
  by_cases e1 : x.2.1 = y.2.1
  case neg =>
    have HE := Lib.hid (show decide (x = y) = false by simp only [decide_eq_false_iff_not]; intro h9; exact e1 (by rw [h9]))
    have hne := bne_iff_ne.2 e1
    clear e1
    go_wp2_with fail
    go_ret
    exact ⟨ret_bool HE.out.symm, by first | exact hb1 | (rw [hw1] at hb1; exact hb1)⟩
  have E1 := Lib.hid e1
  have hq1 : (x.2.1 != y.2.1) = false := by rw [e1]; simp
  clear e1
  go_wp2_with fail
  rw [← hw1]
  clear hw1
  refine (eq_II _ _ (x.2.2) (y.2.2) _ (rII.mono g2 hb1) (rII.mono k2 hb1)).mono ?_
  rintro e w2 ⟨rfl, z2⟩
  have s2 := z2.size
  have hb2 := on hb1 z2
  replace bc_0 := (z2.cell (p := ⟨w.heap.size, 0, none⟩) (by simp only []; omega)).trans bc_0
  replace bd_0 := (z2.cell (p := ⟨w.heap.size + 1, 0, none⟩) (by simp only []; omega)).trans bd_0
  replace bc_1 := (z2.cell (p := ⟨w.heap.size, 1, none⟩) (by simp only []; omega)).trans bc_1
  replace bd_1 := (z2.cell (p := ⟨w.heap.size + 1, 1, none⟩) (by simp only []; omega)).trans bd_1
  replace bc_2 := (z2.cell (p := ⟨w.heap.size, 2, none⟩) (by simp only []; omega)).trans bc_2
  replace bd_2 := (z2.cell (p := ⟨w.heap.size + 1, 2, none⟩) (by simp only []; omega)).trans bd_2
  by_cases e2 : x.2.2 = y.2.2
  case neg =>
    have HE := Lib.hid (show decide (x = y) = false by simp only [decide_eq_false_iff_not]; intro h9; exact e2 (by rw [h9]))
    have hne : decide (x.2.2 = y.2.2) = false := by simpa using e2
    rw [hne]
    clear e2 hne
    go_wp2_with fail
    go_ret
    exact ⟨ret_bool HE.out.symm, hb2⟩
  have E2 := Lib.hid e2
  have hq2 : decide (x.2.2 = y.2.2) = true := by simpa using e2
  rw [hq2]
  clear e2 hq2
  have HE := Lib.hid (show decide (x = y) = true by simp only [decide_eq_true_eq]; exact Prod.ext E0.out (Prod.ext E1.out (E2.out)))
  go_wp2_with fail
  go_ret
  exact ⟨ret_bool HE.out.symm, hb2⟩

end Go.Proofs.Ythhbmbkecaffeaa

/- The laws' marks. -/
namespace Go.Proofs.Ythhbmbkecaffeaa
open Go.RowKit
set_option linter.unusedVariables false
set_option linter.unusedSimpArgs false

/-- The digits of k laid before some text. -/
def mdig : Nat → Nat → List UInt8 → List UInt8
  | 0, _, out => out
  | f + 1, k, out => if k = 0 then out else mdig f (k / 10) (UInt8.ofNat (48 + k % 10) :: out)
def mtext (k : Nat) : ByteArray := ⟨(109 :: mdig 20 k []).toArray⟩

theorem mdig_end {f : Nat} {out : List UInt8} : mdig f 0 out = out := by cases f <;> simp [mdig]

set_option maxHeartbeats 1000000 in
set_option maxRecDepth 100000 in
theorem markText_any (k : Nat) (w : World) (h0 : 0 < k) (hk : k ≤ 100000000000) :
    Calls Try.prog 104 #[.int .i64 k] w fun e w' => e = .returned (.string (mtext k)) ∧ Below w.heap.size w w' := by
  have hb0 : Below w.heap.size w w := Below.refl _ _
  go_enter Try.func104, Try.ntmps104
  go_wp2_with fail
  go_loopw [0, 3] (fun q s wr => ∃ (f i : Nat) (out : List UInt8), i < 10 ^ f ∧ i ≤ 100000000000 ∧ out.length + f ≤ 20 ∧ q = .int .i64 i ∧ s = .string ⟨out.toArray⟩ ∧ Hid (mdig 20 k [] = mdig f i out) ∧ Below w.heap.size w wr) (fun q _ _ => (intOf q).toNat)
  case atStart => exact ⟨20, k, [], by omega, hk, by simp, rfl, rfl, rfl, Below.refl _ _⟩
  case round =>
    obtain ⟨f, i, out, hif, hik, hof, rfl, rfl, hE, hdr⟩ := hrel
    by_cases hlt : 0 < i
    · obtain ⟨f, rfl⟩ : ∃ g, f = g + 1 := by cases f with
        | zero => simp at hif; omega
        | succ g => exact ⟨g, rfl⟩
      have HF := Lib.hid hif
      clear hif
      obtain ⟨c, hcc⟩ : ∃ c, c = UInt8.ofNat (48 + i % 10) := ⟨_, rfl⟩
      have hc2 : (c.toNat : Int) = 48 + (i : Int) % 10 := by
        have h9 : (48 + i % 10) < 256 := by omega
        rw [hcc, UInt8.toNat_ofNat', Nat.mod_eq_of_lt h9]; omega
      have hcv := run_convert_bytes_back (P := Try.prog) (wr.alloc (.cells #[Value.int .u8 (48 + (i : Int) % 10)] 5)) 117 9 5 ⟨wr.heap.size, 0, none⟩ 1 [c] Try.underlying117 Try.underlying5 Try.underlying9 (fun j hj => by
        obtain rfl : j = 0 := by simp at hj; exact hj
        rw [add_zero_addr, box_cell (i := 0) (Below.refl _ _) rfl, ← hc2]; rfl)
      simp only [List.length_cons, List.length_nil, Nat.zero_add] at hcv
      have HC := Lib.hid hcc
      clear hcc hc2
      go_wp2_with fail
      have HE := Lib.hid (show mdig 20 k [] = mdig f (i / 10) (c :: out) by rw [hE.out, mdig, if_neg (by omega), HC.out])
      have hp : i / 10 < 10 ^ f := by have h9 := HF.out; rw [Nat.pow_succ] at h9; omega
      clear hcv
      go_roundw
      case rel => exact ⟨f, i / 10, c :: out, hp, by omega, by simp at hof ⊢; omega, by go_num, by
        show Value.string _ = Value.string _
        congr 1 <;> (apply ByteArray.ext <;> simp), HE.out, hdr.trans ((Below.refl _ _).alloc hdr.size _)⟩
      case measure => simp [intOf]; omega
    · obtain rfl : i = 0 := by omega
      have HE := Lib.hid (show mtext k = ⟨(109 :: out).toArray⟩ by rw [mtext, hE.out, mdig_end])
      clear hif hE
      go_wp2_with fail
      go_ret
      refine ⟨?_, hdr⟩
      rw [HE.out]
      congr 2 <;> (apply ByteArray.ext <;> simp)
end Go.Proofs.Ythhbmbkecaffeaa

/- Arguments of kind Dp opened. Written by a program. -/
namespace Go.Proofs.Ythhbmbkecaffeaa
open Go.ChangeShapes Go.WideShapes Go.ChangeAt Go.RowKit
set_option linter.unusedVariables false
set_option maxRecDepth 100000

theorem opens_Dp : Opens 65 rDp := opens_struct3 Try.underlying65 (by kernel_rfl) rfl rfl rfl (by kernel_rfl) (by kernel_rfl) (by kernel_rfl) opens_str' opens_I opens_int
abbrev kDp_in := agg_in rDp
theorem open_kDp_in {H : Type} {enc : TypeId × Value → H} {W : World} {d : DataW H} {ps : List MemPlace} {v : Value} (hv : Value.okWide Try.prog W .any 0 65 v) (h : DataW.Trod enc Try.prog W 0 (fun _ => true) true 65 v d ps) : kDp_in W v :=
  open_agg_in Try.underlying65 opens_Dp hv h

end Go.Proofs.Ythhbmbkecaffeaa

/- Arguments of kind II opened. Written by a program. -/
namespace Go.Proofs.Ythhbmbkecaffeaa
open Go.ChangeShapes Go.WideShapes Go.ChangeAt Go.RowKit
set_option linter.unusedVariables false
set_option maxRecDepth 100000

theorem opens_II : Opens 55 rII := opens_slice Try.underlying55 (by kernel_rfl) (by decide) opens_I
def kII_in (w : World) (v : Value) : Prop := ∃ u xs, v = u ∧ rII.rep w [u] xs
theorem open_kII_in {H : Type} {enc : TypeId × Value → H} {W : World} {d : DataW H} {ps : List MemPlace} {v : Value} (hv : Value.okWide Try.prog W .any 0 55 v) (h : DataW.Trod enc Try.prog W 0 (fun _ => true) true 55 v d ps) : kII_in W v := by
  obtain ⟨a, l, c, rfl⟩ := okWide_slice Try.underlying55 hv
  obtain ⟨fuel, hf⟩ := h
  obtain ⟨xs, hx⟩ := opens_II H enc W fuel _ _ hf
  exact ⟨_, xs, rfl, by simpa [Value.cells] using hx⟩

end Go.Proofs.Ythhbmbkecaffeaa

/- A region that draws its order, whose last operation waits for all the others. -/
namespace Go.Proofs.Ythhbmbkecaffeaa
open Go.RowKit
set_option linter.unusedVariables false

/-- What is asked behind all but the last. -/
def LastQ (P : Program) (o : Oper) (Q : Exit → Act → World → Prop) : Exit → Act → World → Prop
  | .normal, a, w => Oper.wp P o a w (fun a' w' => Q .normal a' w') Q
  | e, a, w => Q e a w

theorem oper_wp_lastQ {P : Program} {Q : Exit → Act → World → Prop} {o l : Oper} {a : Act} {w : World} {K : Act → World → Prop} (h : o.wp P a w K (LastQ P l Q)) : o.wp P a w K Q := by
  unfold Oper.wp at *
  generalize (execOp a.eval o).run P w = r at *
  cases r with
  | ok n w' =>
    cases n <;> simp only [Oper.upon] at h ⊢ <;>
      first
        | exact h
        | exact Calls.mono h (fun e w'' he => by cases e <;> first | exact he | exact he)
        | exact Rows.mono h (fun _ _ he => he)
  | halt x w' => cases x <;> simp only [Oper.upon] at h ⊢ <;> exact h

/-- Edges backward, no guards, and the last waits for all. -/
structure LastOk (md : Region.Mode) (ops : Array Oper) (l : Oper) : Prop where
  op : ∀ i o, ops[i]? = some o → o.guard = none ∧ (∀ e ∈ o.after, e.on < i) ∧ ∃ e ∈ l.after, Region.binds md e = true ∧ e.on = i
  last : l.guard = none ∧ ∀ e ∈ l.after, e.on < ops.size
def lastOk (md : Region.Mode) (ops : Array Oper) (l : Oper) : Bool :=
  (List.range ops.size).all (fun i => match ops[i]? with
    | some o => o.guard.isNone && (o.after.toList.all (fun e => decide (e.on < i)) && l.after.toList.any (fun e => Region.binds md e && decide (e.on = i)))
    | none => true) && (l.guard.isNone && l.after.toList.all (fun e => decide (e.on < ops.size)))
theorem LastOk.of {md : Region.Mode} {ops : Array Oper} {l : Oper} (h : lastOk md ops l = true) : LastOk md ops l := by
  simp only [lastOk, Bool.and_eq_true, List.all_eq_true, List.mem_range] at h
  obtain ⟨h1, h2, h3⟩ := h
  refine ⟨fun i o ho => ?_, by simpa using h2, fun e he => by have := h3 e (Array.mem_toList_iff.2 he); simpa using this⟩
  have hlt : i < ops.size := (Array.getElem?_eq_some_iff.1 ho).1
  have h4 := h1 i hlt
  rw [ho] at h4
  simp only [Bool.and_eq_true, List.all_eq_true, List.any_eq_true, decide_eq_true_eq] at h4
  obtain ⟨h5, h6, e, he, h7, h8⟩ := h4
  exact ⟨by simpa using h5, fun e he => h6 e (Array.mem_toList_iff.2 he), e, Array.mem_toList_iff.1 he, h7, h8⟩

theorem getD_push_lt {L : Array Bool} {i : Nat} (d : Bool) (h : i < L.size) : (L.push false).getD i d = L.getD i d := by
  simp [Array.getElem?_push_lt, h]
theorem mem_ready_push {md : Region.Mode} {ops : Array Oper} {l : Oper} (hok : LastOk md ops l) {L : Array Bool} (hL : L.size = ops.size) {i : Nat} (hi : i < ops.size) :
    i ∈ Region.ready md (ops.push l) (L.push false) ↔ i ∈ Region.ready md ops L := by
  rw [mem_ready, mem_ready, getD_push_lt true (by omega), Array.getElem?_push_lt hi, Array.getElem?_eq_getElem hi]
  constructor
  · rintro ⟨h0, o, ho, h⟩
    refine ⟨h0, o, ho, fun e he hb => ?_⟩
    have := h e he hb
    rwa [getD_push_lt false (by have := (hok.op i o (by rw [Array.getElem?_eq_getElem hi]; exact ho)).2.1 e he; omega)] at this
  · rintro ⟨h0, o, ho, h⟩
    refine ⟨h0, o, ho, fun e he hb => ?_⟩
    rw [getD_push_lt false (by have := (hok.op i o (by rw [Array.getElem?_eq_getElem hi]; exact ho)).2.1 e he; omega)]
    exact h e he hb
theorem all_listed {md : Region.Mode} {ops : Array Oper} {l : Oper} (hok : LastOk md ops l) {L : Array Bool} (hL : L.size = ops.size) (hr : Region.ready md ops L = []) : ∀ i, i < ops.size → L.getD i true = true := by
  intro i
  induction i using Nat.strongRecOn with
  | _ i ih =>
    intro hi
    cases h : L.getD i true with
    | true => rfl
    | false =>
      have : i ∈ Region.ready md ops L := by
        rw [mem_ready]
        refine ⟨h, ops[i], Array.getElem?_eq_getElem hi, fun e he hb => ?_⟩
        have hlt := (hok.op i ops[i] (Array.getElem?_eq_getElem hi)).2.1 e he
        have := ih e.on hlt (by omega)
        have h9 : e.on < L.size := by omega
        simpa [h9] using this
      rw [hr] at this
      cases this

theorem mem_ready_last {md : Region.Mode} {ops : Array Oper} {l : Oper} (hok : LastOk md ops l) {L : Array Bool} (hL : L.size = ops.size) : ops.size ∈ Region.ready md (ops.push l) (L.push false) ↔ ∀ i, i < ops.size → L.getD i true = true := by
  rw [mem_ready]
  constructor
  · rintro ⟨_, o, ho, h⟩ i hi
    rw [Array.getElem?_push_size] at ho
    obtain rfl := Option.some.inj ho
    obtain ⟨e, he, hb, rfl⟩ := (hok.op i ops[i] (Array.getElem?_eq_getElem hi)).2.2
    have := h e he hb
    rw [getD_push_lt false (by omega)] at this
    have h9 : e.on < L.size := by omega
    simpa [h9] using this
  · intro h
    refine ⟨?_, l, Array.getElem?_push_size, fun e he hb => ?_⟩
    · rw [← hL]; simp
    · have h8 := hok.last.2 e he
      rw [getD_push_lt false (by omega)]
      have := h e.on h8
      have h9 : e.on < L.size := by omega
      simpa [h9] using this
theorem ready_full {md : Region.Mode} {ops : Array Oper} {L : Array Bool} (h : ∀ i, i < ops.size → L.getD i true = true) : Region.ready md ops L = [] := by
  apply List.eq_nil_iff_forall_not_mem.2
  intro i hi
  obtain ⟨h0, o, ho, _⟩ := mem_ready.1 hi
  rw [h i (Array.getElem?_eq_some_iff.1 ho).1] at h0
  cases h0

/-- A region, but for its last operation, with that behind it. -/
theorem wpAny_last {P : Program} {md : Region.Mode} {ops : Array Oper} {l : Oper} {Q : Exit → Act → World → Prop} (hok : LastOk md ops l) : ∀ (fuel : Nat) (L : Array Bool) (a : Act) (w : World), L.size = ops.size →
    wpAny P md ops (LastQ P l Q) fuel L a w → wpAny P md (ops.push l) Q (fuel + 1) (L.push false) a w := by
  have full : ∀ (fuel : Nat) (L : Array Bool) (a : Act) (w : World), L.size = ops.size → (∀ i, i < ops.size → L.getD i true = true) → Oper.wp P l a w (fun a' w' => Q .normal a' w') Q → wpAny P md (ops.push l) Q (fuel + 1) (L.push false) a w := by
    intro fuel L a w hL hall h
    have hin := (mem_ready_last hok hL).2 hall
    refine ⟨fun h0 => absurd (h0 ▸ hin) (by simp), fun i hi => ?_⟩
    have hin2 : i = ops.size := by
      obtain ⟨h0, o, ho, _⟩ := mem_ready.1 hi
      have hlt := (Array.getElem?_eq_some_iff.1 ho).1
      rw [Array.size_push] at hlt
      rcases Nat.lt_or_ge i ops.size with h9 | h9
      · rw [getD_push_lt true (by omega), hall i h9] at h0; cases h0
      · omega
    subst hin2
    have hset : (L.push false).setIfInBounds ops.size true = L.push true := by
      rw [← hL]
      apply Array.ext_getElem?
      intro j
      by_cases hij : L.size = j
      · subst hij
        simp
      · rw [Array.getElem?_setIfInBounds_ne hij, Array.getElem?_push, Array.getElem?_push]
        simp [Ne.symm hij]
    have hr0 : Region.ready md (ops.push l) (L.push true) = [] := by
      apply ready_full
      intro j hj
      rw [Array.size_push] at hj
      rcases Nat.lt_or_ge j ops.size with h9 | h9
      · have := hall j h9
        have h8 : j < L.size := by omega
        simpa [Array.getElem?_push_lt, h8] using this
      · have : j = L.size := by omega
        subst this; simp
    unfold wpOp
    rw [Array.getElem?_push_size]
    simp only []
    rw [if_pos (by simp [Region.wanted, hok.last.1]), hset]
    refine .inl (Oper.wp_mono (fun a' w' h9 => ?_) h)
    cases fuel with
    | zero => exact ⟨hr0, h9⟩
    | succ f => exact ⟨fun _ => h9, by rw [hr0]; simp⟩
  intro fuel
  induction fuel with
  | zero =>
    intro L a w hL h
    exact full 0 L a w hL (all_listed hok hL h.1) h.2
  | succ f ih =>
    intro L a w hL h
    by_cases hr : Region.ready md ops L = []
    · exact full (f + 1) L a w hL (all_listed hok hL hr) (h.1 hr)
    · refine ⟨fun h0 => ?_, fun i hi => ?_⟩
      · obtain ⟨i, hi⟩ := List.exists_mem_of_ne_nil _ hr
        have hlt : i < ops.size := by obtain ⟨_, o, ho, _⟩ := mem_ready.1 hi; exact (Array.getElem?_eq_some_iff.1 ho).1
        have := (mem_ready_push hok hL hlt).2 hi
        rw [h0] at this
        cases this
      · have hlt : i < ops.size := by
          obtain ⟨h0, o, ho, _⟩ := mem_ready.1 hi
          have h9 := (Array.getElem?_eq_some_iff.1 ho).1
          rw [Array.size_push] at h9
          rcases Nat.lt_or_ge i ops.size with h8 | h8
          · exact h8
          · have h7 : i = ops.size := by omega
            subst h7
            exact absurd (ready_full ((mem_ready_last hok hL).1 hi)) hr
        have h1 := h.2 i ((mem_ready_push hok hL hlt).1 hi)
        have hset : (L.push false).setIfInBounds i true = (L.setIfInBounds i true).push false := by
          have hLt : i < L.size := by omega
          apply Array.ext_getElem?
          intro j
          by_cases hij : i = j
          · subst hij
            simp [Array.getElem?_push, Array.getElem?_setIfInBounds, hLt, Nat.ne_of_lt hLt]
            try omega
          · rw [Array.getElem?_setIfInBounds_ne hij, Array.getElem?_push, Array.getElem?_push, Array.getElem?_setIfInBounds_ne hij]
            simp
        rw [hset]
        unfold wpOp at h1 ⊢
        rw [Array.getElem?_push_lt hlt]
        rw [Array.getElem?_eq_getElem hlt] at h1
        have hg := (hok.op i ops[i] (Array.getElem?_eq_getElem hlt)).1
        simp only [] at h1 ⊢
        rw [if_pos (by simp [Region.wanted, hg])] at h1 ⊢
        rcases h1 with h1 | ⟨h1, h2⟩
        · exact .inl (Oper.wp_mono (fun a' w' h9 => ih _ a' w' (by simp [hL]) h9) (oper_wp_lastQ h1))
        · exact .inr ⟨h1, h2⟩

/-- THE BEGINNING: S is asked behind every operation but the last. -/
theorem wp_region_lastH {P : Program} {id : Nat} {ops0 : Array Oper} {Q : Exit → Act → World → Prop} {a : Act} {w : World} (S : World → Prop) (ops : Array Oper) (l : Oper) (he : ops0 = ops.push l) (hm : P.follows .mixedOrders = true) (hok : lastOk .any ops l = true)
    (h : wpAnyH P .any ops (LastQ P l Q) S ops.size (Array.replicate ops.size false) a w.drew) : (Code.region id ops0 true).wp P Q a w := by
  subst he
  refine wp_region_any hm ?_
  have h1 := wpAny_last (LastOk.of hok) ops.size (Array.replicate ops.size false) a w.drew (by simp) (wpAny_of_held _ _ _ _ h)
  have h2 : (Array.replicate ops.size false).push false = Array.replicate (ops.push l).size false := by
    rw [Array.size_push, Array.replicate_succ]
  rw [h2] at h1
  rw [Array.size_push]
  rw [Array.size_push] at h1
  exact h1

theorem wp_region_lastP {P : Program} {id : Nat} {ops0 : Array Oper} {Q : Exit → Act → World → Prop} {a : Act} {w : World} (S : World → Prop) (k : Nat) {l : Oper} (hk : ops0.size = k + 1) (hl : ops0[k]? = some l) (hm : P.follows .mixedOrders = true) (hok : lastOk .any ops0.pop l = true) (hS : S w.drew)
    (h : S w.drew → ∀ ops, ops = ops0.pop → wpAnyH P .any ops (LastQ P l Q) S k (Array.replicate k false) a w.drew) : (Code.region id ops0 true).wp P Q a w := by
  have h1 := h hS ops0.pop rfl
  have hs : ops0.pop.size = k := by rw [Array.size_pop, hk]; rfl
  refine wp_region_lastH S ops0.pop l ?_ hm hok (by rw [hs]; exact h1)
  apply Array.ext_getElem?
  intro i
  rw [Array.getElem?_push]
  by_cases hi : i = ops0.pop.size
  · subst hi; rw [hs, hl]; simp
  · rw [if_neg hi, Array.getElem?_pop]
    by_cases h9 : i < ops0.size - 1
    · rw [if_pos h9]
    · rw [if_neg h9, Array.getElem?_eq_none (by omega)]

end Go.Proofs.Ythhbmbkecaffeaa

/- Contracts: rows of ints: in range, ascending. -/
namespace Go.Proofs.Ythhbmbkecaffeaa
open Go.RowKit
set_option linter.unusedVariables false
set_option linter.unusedSimpArgs false

/-- A row: all values in range, so many. -/
def rowB (row : List Int) (n : Int) : Bool := row.all (fun v => betw v 0 9) && decide ((row.length : Int) = n)
def rowsB (n : Int) (rows : List (List Int)) : Bool := rows.all (fun r => rowB r n)
/-- Rows strictly ascending. -/
def ascB : List (List Int) → Bool
  | a :: b :: t => decide (cmpRows a b < 0) && ascB (b :: t)
  | _ => true
theorem all_at {p : Int → Bool} {xs : List Int} {j : Nat} {x : Int} (hj : j < xs.length) (hx : xs.getD j 0 = x) : (xs.drop j).all p = (p x && (xs.drop (j + 1)).all p) := by
  rw [drop_cons xs j hj, hx]; rfl
theorem all_end {p : Int → Bool} {xs : List Int} {j : Nat} (hj : xs.length ≤ j) : (xs.drop j).all p = true := by
  rw [List.drop_eq_nil_of_le hj]; rfl
theorem drop_at {α : Type} {xs : List α} {j : Nat} {x : α} (h : xs[j]? = some x) : xs.drop j = x :: xs.drop (j + 1) := by
  obtain ⟨h1, rfl⟩ := List.getElem?_eq_some_iff.1 h
  exact List.drop_eq_getElem_cons h1
theorem rowsB_at {n : Int} {rows : List (List Int)} {j : Nat} {r : List Int} (h : rows[j]? = some r) : rowsB n (rows.drop j) = (rowB r n && rowsB n (rows.drop (j + 1))) := by
  rw [drop_at h]; rfl
theorem rowsB_end {n : Int} {rows : List (List Int)} {j : Nat} (hj : rows.length ≤ j) : rowsB n (rows.drop j) = true := by
  rw [List.drop_eq_nil_of_le hj]; rfl
theorem ascB_at {rows : List (List Int)} {j : Nat} {r s : List Int} (h : rows[j]? = some r) (h' : rows[j + 1]? = some s) : ascB (rows.drop j) = (decide (cmpRows r s < 0) && ascB (rows.drop (j + 1))) := by
  rw [drop_at h, drop_at h']; rfl
theorem ascB_end {rows : List (List Int)} {j : Nat} (hj : rows.length ≤ j + 1) : ascB (rows.drop j) = true := by
  have : (rows.drop j).length ≤ 1 := by rw [List.length_drop]; omega
  match h : rows.drop j, this with
  | [], _ => rfl
  | [a], _ => rfl

theorem rowB_no {row : List Int} {n : Int} {j : Nat} (h : rowB row n = ((row.drop j).all (fun v => betw v 0 9) && decide ((row.length : Int) = n))) {x : Int} (hj : j < row.length) (hx : row.getD j 0 = x) (hb : betw x 0 9 = false) : rowB row n = false := by
  rw [h, all_at hj hx, hb]; rfl

set_option maxHeartbeats 400000 in
theorem rowOk_any (a : Option Addr) (n cap : Nat) (xs : List Int) (m : Int) (w : World) (h : Ints w a n xs) :
    Calls Try.prog 116 #[.slice a n cap, .int .i64 m] w fun e w' => e = .returned (.bool (rowB xs m)) ∧ w = w' := by
  have hn := h.small
  have hl := h.len
  go_enter Try.func116, Try.ntmps116
  go_wp2
  go_loop [9] (fun k => ∃ j : Nat, j ≤ n ∧ k = .int .i64 j ∧ Hid (rowB xs m = ((xs.drop j).all (fun v => betw v 0 9) && decide ((xs.length : Int) = m)))) (fun k => n - (intOf k).toNat)
  case atStart => exact ⟨0, Nat.zero_le _, rfl, by simp [Hid, rowB]⟩
  case round =>
    obtain ⟨j, hj, rfl, hE⟩ := hrel
    by_cases hlt : j < n
    · obtain ⟨b, off, x, rfl, hc, hx, _, _⟩ := h.get hlt
      by_cases hb : betw x 0 9 = true
      · have HE := Lib.hid (hE.out.trans (show _ = ((xs.drop (j + 1)).all (fun v => betw v 0 9) && decide ((xs.length : Int) = m)) by rw [all_at (by omega) hx.out, hb, Bool.true_and]))
        clear h hl
        go_wp2_with fail
        refine (within_any _ _ _ _).mono ?_
        rintro e w' ⟨rfl, rfl⟩
        go_wp2_with fail
        go_round
        case rel => exact ⟨j + 1, by omega, by go_num, HE.out⟩
        case measure => simp [intOf]; omega
      · replace hb : betw x 0 9 = false := by simpa using hb
        have HE := Lib.hid (rowB_no hE.out (by omega) hx.out hb)
        clear h hl
        go_wp2_with fail
        refine (within_any _ _ _ _).mono ?_
        rintro e w' ⟨rfl, rfl⟩
        go_wp2_with fail
        go_ret
        exact ⟨ret_bool HE.out.symm, rfl⟩
    · have HE := Lib.hid (show decide ((n : Int) = m) = rowB xs m by rw [hE.out, all_end (by omega), hl, Bool.true_and])
      clear h hl
      go_wp2_with fail
      go_ret
      exact ⟨ret_bool (by rw [← HE.out]; rfl), rfl⟩

set_option maxHeartbeats 400000 in
theorem l4Row_any (a : Option Addr) (n cap : Nat) (xs : List Int) (m : Int) (w : World) (h : Ints w a n xs) :
    Calls Try.prog 114 #[.slice a n cap, .int .i64 m] w fun e w' => e = .returned (.bool (rowB xs m)) ∧ w = w' := by
  have hn := h.small
  have hl := h.len
  go_enter Try.func114, Try.ntmps114
  go_wp2
  go_loop [5] (fun k => ∃ j : Nat, j ≤ n ∧ k = .int .i64 j ∧ Hid (rowB xs m = ((xs.drop j).all (fun v => betw v 0 9) && decide ((xs.length : Int) = m)))) (fun k => n - (intOf k).toNat)
  case atStart => exact ⟨0, Nat.zero_le _, rfl, by simp [Hid, rowB]⟩
  case round =>
    obtain ⟨j, hj, rfl, hE⟩ := hrel
    by_cases hlt : j < n
    · obtain ⟨b, off, x, rfl, hc, hx, _, _⟩ := h.get hlt
      by_cases hb : betw x 0 9 = true
      · have HE := Lib.hid (hE.out.trans (show _ = ((xs.drop (j + 1)).all (fun v => betw v 0 9) && decide ((xs.length : Int) = m)) by rw [all_at (by omega) hx.out, hb, Bool.true_and]))
        clear h hl
        go_wp2_with fail
        refine (l1In_any _ _ _ _).mono ?_
        rintro e w' ⟨rfl, rfl⟩
        go_wp2_with fail
        go_round
        case rel => exact ⟨j + 1, by omega, by go_num, HE.out⟩
        case measure => simp [intOf]; omega
      · replace hb : betw x 0 9 = false := by simpa using hb
        have HE := Lib.hid (rowB_no hE.out (by omega) hx.out hb)
        clear h hl
        go_wp2_with fail
        refine (l1In_any _ _ _ _).mono ?_
        rintro e w' ⟨rfl, rfl⟩
        go_wp2_with fail
        go_ret
        exact ⟨ret_bool HE.out.symm, rfl⟩
    · have HE := Lib.hid (show decide ((n : Int) = m) = rowB xs m by rw [hE.out, all_end (by omega), hl, Bool.true_and])
      clear h hl
      go_wp2_with fail
      go_ret
      exact ⟨ret_bool (by rw [← HE.out]; rfl), rfl⟩

theorem isNaN_any (x : Int) (w : World) :
    Calls Try.prog 136 #[.int .i64 x] w fun e w' => e = .returned (.bool false) ∧ w = w' := by
  go_enter Try.func136, Try.ntmps136
  go_wp2
  go_ret
  exact ⟨rfl, rfl⟩
/-- Numbers compared. -/
def cmpI (x y : Int) : Int := if x < y then -1 else if y < x then 1 else 0
theorem cmpI_any (x y : Int) (w : World) :
    Calls Try.prog 135 #[.int .i64 x, .int .i64 y] w fun e w' => e = .returned (.int .i64 (cmpI x y)) ∧ w = w' := by
  have HE1 := Lib.hid (show x < y → cmpI x y = -1 from fun h => by simp [cmpI, h])
  have HE2 := Lib.hid (show y < x → cmpI x y = 1 from fun h => by simp only [cmpI]; rw [if_neg (by omega), if_pos h])
  have HE3 := Lib.hid (show ¬ x < y → ¬ y < x → cmpI x y = 0 from fun h h' => by simp [cmpI, h, h'])
  go_enter Try.func135, Try.ntmps135
  go_wp2_with fail
  refine (isNaN_any _ _).mono ?_
  rintro e w' ⟨rfl, rfl⟩
  go_wp2_with fail
  refine (isNaN_any _ _).mono ?_
  rintro e w' ⟨rfl, rfl⟩
  by_cases h1 : x < y
  · go_wp2_with fail
    go_ret
    exact ⟨ret_int (HE1.out (by omega)).symm, rfl⟩
  · by_cases h2 : y < x
    · go_wp2_with fail
      go_ret
      exact ⟨ret_int (HE2.out (by omega)).symm, rfl⟩
    · go_wp2_with fail
      go_ret
      exact ⟨ret_int (HE3.out (by omega) (by omega)).symm, rfl⟩

set_option maxHeartbeats 800000 in
theorem compare_any (a b : Option Addr) (n m cap cap' : Nat) (xs ys : List Int) (w : World) (h : Ints w a n xs) (h' : Ints w b m ys) :
    Calls Try.prog 134 #[.slice a n cap, .slice b m cap'] w fun e w' => e = .returned (.int .i64 (cmpRows xs ys)) ∧ w = w' := by
  have hn := h.small
  have hm := h'.small
  have hl := h.len
  have hl' := h'.len
  go_enter Try.func134, Try.ntmps134
  go_wp2
  go_loop [11] (fun i => ∃ j : Nat, j ≤ n ∧ j ≤ m ∧ i = .int .i64 j ∧ Hid (cmpRows xs ys = cmpRows (xs.drop j) (ys.drop j))) (fun i => n - (intOf i).toNat)
  case atStart => exact ⟨0, Nat.zero_le _, Nat.zero_le _, rfl, rfl⟩
  case round =>
    obtain ⟨j, hj, hjm, rfl, hE⟩ := hrel
    by_cases hlt : j < n
    · by_cases hlm : j < m
      · obtain ⟨b1, o1, x, rfl, hc1, hx, _, _⟩ := h.get hlt
        obtain ⟨b2, o2, y, rfl, hc2, hy, _, _⟩ := h'.get hlm
        have HD := Lib.hid (show cmpRows xs ys = cmpRows (x :: xs.drop (j + 1)) (y :: ys.drop (j + 1)) by rw [hE.out, h.drop hlt hx, h'.drop hlm hy])
        have hcall := cmpI_any x y w
        clear hl hl' h h'
        by_cases h1 : x < y
        · have HE := Lib.hid (HD.out.trans (cmp_lt h1))
          rw [show cmpI x y = -1 by simp [cmpI, h1]] at hcall
          have HC := Lib.hid hcall
          clear hcall h1
          go_wp2_with fail
          refine (HC.out).mono ?_
          rintro e w' ⟨rfl, rfl⟩
          go_wp2_with fail
          go_ret
          exact ⟨ret_int HE.out.symm, rfl⟩
        · by_cases h2 : y < x
          · have HE := Lib.hid (HD.out.trans (cmp_gt h2))
            rw [show cmpI x y = 1 by simp [cmpI, h1, h2]] at hcall
            have HC := Lib.hid hcall
            clear hcall h1 h2
            go_wp2_with fail
            refine (HC.out).mono ?_
            rintro e w' ⟨rfl, rfl⟩
            go_wp2_with fail
            go_ret
            exact ⟨ret_int HE.out.symm, rfl⟩
          · have HE := Lib.hid (HD.out.trans (cmp_eq (show x = y by omega)))
            rw [show cmpI x y = 0 by simp [cmpI, h1, h2]] at hcall
            have HC := Lib.hid hcall
            clear hcall h1 h2
            go_wp2_with fail
            refine (HC.out).mono ?_
            rintro e w' ⟨rfl, rfl⟩
            go_wp2_with fail
            go_round
            case rel => exact ⟨j + 1, by omega, by omega, by go_num, HE.out⟩
            case measure => simp [intOf]; omega
      · have HE := Lib.hid (show cmpRows xs ys = 1 by
          rw [hE.out, List.drop_of_length_le (l := ys) (by omega), drop_cons xs j (by omega)]; rfl)
        have hmn : m ≤ j := by omega
        obtain ⟨b1, o1, x, rfl, hc1, hx, _, _⟩ := h.get hlt
        clear hl hl' h h' hjm hlm
        go_wp2_with fail
        go_ret
        exact ⟨ret_int HE.out.symm, rfl⟩
    · obtain rfl : j = n := by omega
      by_cases hlm : j < m
      · have HE := Lib.hid (show cmpRows xs ys = -1 by
          rw [hE.out, List.drop_of_length_le (l := xs) (by omega), drop_cons ys j (by omega)]; rfl)
        clear hl hl' h h'
        go_wp2_with fail
        go_ret
        exact ⟨ret_int HE.out.symm, rfl⟩
      · have HE := Lib.hid (show cmpRows xs ys = 0 by
          rw [hE.out, List.drop_of_length_le (l := xs) (by omega), List.drop_of_length_le (l := ys) (by omega)]; rfl)
        clear hl hl' h h'
        go_wp2_with fail
        go_ret
        exact ⟨ret_int HE.out.symm, rfl⟩

theorem cmpRows_any (a b : Option Addr) (n m cap cap' : Nat) (xs ys : List Int) (w : World) (h : Ints w a n xs) (h' : Ints w b m ys) :
    Calls Try.prog 130 #[.slice a n cap, .slice b m cap'] w fun e w' => e = .returned (.int .i64 (cmpRows xs ys)) ∧ w = w' := by
  go_enter Try.func130, Try.ntmps130
  go_wp2_with fail
  refine (compare_any _ _ _ _ _ _ _ _ _ h h').mono ?_
  rintro e w' ⟨rfl, rfl⟩
  go_wp2_with fail
  go_ret
  exact ⟨rfl, rfl⟩

set_option maxHeartbeats 800000 in
theorem ascending_any (a : Option Addr) (n cap : Nat) (xss : List (List Int)) (w : World) (h : Sl rI w a n xss) :
    Calls Try.prog 117 #[.slice a n cap] w fun e w' => e = .returned (.bool (ascB xss)) ∧ Drew w w' := by
  have hn := h.small
  have hl := h.len
  go_enter Try.func117, Try.ntmps117
  go_wp2
  go_loopw [3] (fun k wr => ∃ j : Nat, j ≤ n ∧ k = .int .i64 ((j : Int) + 1) ∧ Hid (ascB xss = ascB (xss.drop j)) ∧ Drew w wr) (fun k _ => n + 1 - (intOf k).toNat)
  case atStart => exact ⟨0, Nat.zero_le _, rfl, rfl, Drew.refl _⟩
  case round =>
    obtain ⟨j, hj, rfl, hE, hdr⟩ := hrel
    replace h := h.drew hdr
    by_cases hlt : j + 1 < n
    · obtain ⟨b1, o1, r1, m1, q1, x, rfl, hc1, hx, hi, _⟩ := h.row (show j < n by omega)
      obtain ⟨b2, o2, r2, m2, q2, y, hb2, hc2, hy, hi', _⟩ := h.row hlt
      simp at hb2
      obtain ⟨rfl, rfl⟩ := hb2
      have hcall := fun q => cmpRows_any r1 r2 m1 m2 q1 q2 x y (wr.drewN q) (hi.drewN q) (hi'.drewN q)
      obtain ⟨c, hc⟩ : ∃ c, c = cmpRows x y := ⟨_, rfl⟩
      rw [← hc] at hcall
      have HC := Lib.hid hcall
      have HA := Lib.hid (hE.out.trans (ascB_at hx.out hy.out))
      rw [← hc] at HA
      have e1 : ((j : Int) + 1 - 1) = (j : Int) := by omega
      have hk : ((j : Int) + 1) < (n : Int) := by omega
      have hc2' : wr.cell? ⟨b1, o1 + (j + 1), none⟩ = some (.slice r2 m2 q2) := hc2
      clear h hl hi hi' hcall hc hx hy hE
      by_cases h0 : c < 0
      · have HE := Lib.hid (show ascB xss = ascB (xss.drop (j + 1)) by rw [HA.out]; simp [h0])
        go_wp2_with fail
        go_quiet ((go_at_call 130; exact quiet_same (HC.out _)))
        go_wp2_with fail
        go_roundw
        case rel => exact ⟨j + 1, by omega, by go_num, HE.out, hdr.step _⟩
        case measure => simp [intOf]; omega
      · have HE := Lib.hid (show ascB xss = false by rw [HA.out]; simp [h0])
        go_wp2_with fail
        go_quiet ((go_at_call 130; exact quiet_same (HC.out _)))
        go_wp2_with fail
        go_ret
        exact ⟨ret_bool HE.out.symm, hdr.step _⟩
    · have HE := Lib.hid (hE.out.trans (ascB_end (by omega)))
      have hk : ¬ ((j : Int) + 1) < (n : Int) := by omega
      clear h hl hE
      go_wp2_with fail
      go_ret
      exact ⟨ret_bool HE.out.symm, hdr⟩

end Go.Proofs.Ythhbmbkecaffeaa

/- Contracts: copies of rows and tables. -/
namespace Go.Proofs.Ythhbmbkecaffeaa
open Go.RowKit Go.Sort
set_option linter.unusedVariables false
set_option linter.unusedSimpArgs false
set_option synthInstance.maxSize 2000
set_option synthInstance.maxHeartbeats 400000

theorem info_zero {e : TypeId} {z : Value} {size bytes : Nat} (h : (Try.prog.info? e).map (fun i => (i.zero, i.size, i.bytes)) = some (some z, size, bytes)) : ∃ i, Try.prog.info? e = some i ∧ i.zero = some z ∧ i.size = size ∧ i.bytes = bytes := info_parts h

/-- 'append([]int{}, xs...)', xs nil or not. -/
theorem wpList_copyI {W : World} {ops : Array Oper} {rest : List Oper} {o : Oper} {a : Act} {Q : Exit → Act → World → Prop}
    (s x : Operand) (g n c : Nat) (ad : Option Addr) (xs : List Int) (hg : W.heap.size = g) (hi : Ints (W.alloc (.cells #[] 3)) ad n xs) (hn : n ≤ 1000000000000)
    (hgd : o.guard = none) (ho : o.op = .call { callee := .builtin .append, args := #[s, x], argTypes := #[35, 35] })
    (hs : a.eval s = .slice (some ⟨g, 0, none⟩) 0 0) (hx : a.eval x = .slice ad n c)
    (h : ∀ v' w', OwnInts W.heap.size w' v' n xs → Below W.heap.size W w' → W.heap.size < w'.heap.size → wpList Try.prog ops Q rest (a.put o.dst v') w') :
    wpList Try.prog ops Q (o :: rest) a (W.alloc (.cells #[] 3)) := by
  subst hg
  obtain ⟨i, hi0, hz0, hz1, hz2⟩ := info_parts infoInt
  have hown := own_empty (Nat.le_refl W.heap.size)
  have hbl : Below W.heap.size W (W.alloc (.cells #[] 3)) := (Below.refl _ _).alloc (Nat.le_refl _) _
  cases ad with
  | none =>
    have hn0 : n = 0 := by
      rcases Nat.eq_zero_or_pos n with h0 | h0
      · exact h0
      · obtain ⟨b, off, hb, _⟩ := hi.cell 0 h0; simp at hb
    subst hn0
    have hx0 : xs = [] := List.eq_nil_of_length_eq_zero hi.len
    subst hx0
    refine wpList_plain hgd fun K hK => ?_
    have hr : (Builtin.append_ #[35, 35] o.type #[.slice (some ⟨W.heap.size, 0, none⟩) 0 0, .slice none 0 c]).run Try.prog (W.alloc (.cells #[] 3)) = .ok (.slice (some ⟨W.heap.size, 0, none⟩) 0 0) (W.alloc (.cells #[] 3)) := run_append_room_src (P := Try.prog) (W.alloc (.cells #[] 3)) 35 35 o.type 3 i Try.underlying35 hi0 W.heap.size 0 0 0 (.slice none 0 c) 0 [] (Src.ofNil _ Try.underlying35 c) (by omega) (by simp) (by simp)
    unfold Oper.wp execOp
    simp only [ho, resolve, invoke, builtin, Sem.run_bind, Sem.run_pure, Result.andThen_ok, List.map_toArray, List.map_cons, List.map_nil, hs, hx, hr]
    exact hK _ _ (h _ _ hown hbl (by simp))
  | some ad =>
    have hnews : ∀ j u, (xs.map (Value.int .i64))[j]? = some u → (W.alloc (.cells #[] 3)).cell? (ad.add j) = some u := by
      intro j u hu
      rw [List.getElem?_map] at hu
      have hj : j < n := by
        rw [← hi.len]
        rcases Nat.lt_or_ge j xs.length with h1 | h1
        · exact h1
        · rw [List.getElem?_eq_none h1] at hu; simp at hu
      obtain ⟨b, off, hb, hc⟩ := hi.cell j hj
      simp at hb
      subst hb
      rw [List.getD_eq_getElem?_getD] at hc
      rw [List.getElem?_eq_getElem (by rw [hi.len]; exact hj)] at hu hc
      simp at hu
      subst hu
      rw [Addr.add_lit]
      simpa using hc
    refine wpList_append_own _ hgd s x 35 ho W.heap.size 3 i (.int .i64 0) 1 8 Try.underlying35 hi0 hz0 hz1 hz2 rfl (by decide) _ 0 [] hs (by simpa using hown.row) ad n c (xs.map (Value.int .i64)) hx (by simp [hi.len]) hnews (by intro z hz; simp at hz; obtain ⟨y, _, rfl⟩ := hz; rfl) (by unfold maxLen; omega) (by omega) (by simp) ?_
    intro v' w' h1 h2 _
    refine h v' w' ⟨hi.len, by simpa using h1, hi.rng⟩ (hbl.grown h2 (by simp) (fun k hk => by simp [Value.ownBlock] at hk; omega)) ?_
    have := h2.size; simp at this; omega

theorem copyInts_any (v : Value) (xs : List Int) (w : World) (h : rI.rep w [v] xs) (hn : xs.length ≤ 100000000) :
    Calls Try.prog 133 #[v] w fun e w' => ∃ u, e = .returned u ∧ Own oI w.heap.size w'.heap.size w' [u] xs ∧ Below w.heap.size w w' := by
  obtain ⟨a, cap, rfl, _, _, hi⟩ := rI_open h
  have hi2 := hi.below ((Below.refl _ _).alloc (Nat.le_refl _) (.cells #[] 3))
  clear h
  go_enter Try.func133, Try.ntmps133
  go_wp2_with ((at_builtin; refine wpList_copyI _ _ _ _ _ _ xs rfl hi2 (by omega) rfl rfl rfl rfl ?_; intro v' w1 hown hb hsz))
  obtain ⟨a', cap', rfl, _⟩ := own_form hown.row
  go_wp2_with fail
  go_ret
  exact ⟨_, rfl, hown.own, hb⟩

theorem infoI : (Try.prog.info? 35).map (fun i => (i.zero, i.size, i.bytes)) = some (some (.slice none 0 0), 1, 24) := by kernel_rfl

set_option maxHeartbeats 1000000 in
theorem copyRows_any (v : Value) (xss : List (List Int)) (w : World) (h : rII.rep w [v] xss) (hn : bulk_II xss ≤ 100000000) :
    Calls Try.prog 129 #[v] w fun e w' => ∃ u, e = .returned u ∧ Own oII w.heap.size w'.heap.size w' [u] xss ∧ Below w.heap.size w w' := by
  obtain ⟨a, cap, rfl, _, _, t0⟩ := rS_open h
  clear h
  obtain ⟨n, hl⟩ : ∃ n, xss.length = n := ⟨_, rfl⟩
  rw [hl] at t0 ⊢
  have hn1 : n ≤ 100000000 := by unfold bulk_II at hn; omega
  have hrows : ∀ (j : Nat) (r : List Int), xss[j]? = some r → r.length ≤ 100000000 := fun j r hr => by
    have h9 := sumBy_mem bulk_I hr; unfold bulk_II at hn; unfold bulk_I at h9 hn; omega
  have HR := Lib.hid hrows
  clear hn hrows
  have hb0 : Below w.heap.size w w := Below.refl _ _
  go_enter Try.func129, Try.ntmps129
  obtain ⟨w1, hw1⟩ : ∃ W, W = w.alloc (.cells #[] 35) := ⟨_, rfl⟩
  have z1 : Below w.heap.size w w1 := by rw [hw1]; exact (Below.refl _ _).alloc (Nat.le_refl _) _
  have s1 : w1.heap.size = w.heap.size + 1 := by rw [hw1]; simp
  have hb1 := on hb0 z1
  have ho : ∀ S, Acc 35 oI w.heap.size S w1.heap.size w1 (.slice (some ⟨w.heap.size, 0, none⟩) 0 0) [] := fun S => by rw [hw1]; exact Acc.empty (by omega) (by first | (simp; done) | (simp; omega))
  go_wp2_with fail
  rw [← hw1]
  clear hw1
  go_loopw [3, 9] (fun v k wr => ∃ j : Nat, j ≤ n ∧ k = .int .i64 j ∧ Acc 35 oI w.heap.size w1.heap.size wr.heap.size wr v (xss.take j) ∧ Turn w.heap.size (w.heap.size + 1) w1 wr) (fun _ k _ => n - (intOf k).toNat)
  case atStart => exact ⟨0, Nat.zero_le _, rfl, by rw [List.take_zero]; exact (ho _).wide (Nat.le_refl _) (by omega), turn_refl _ _ _⟩
  case round =>
    obtain ⟨j, hj, rfl, hacc, hdr⟩ := hrel
    have hlc := hdr
    have hE0 : w1.heap.size = w.heap.size + 1 := by omega
    clear ho
    have s2 := hdr.size
    have hb2 := hb1.trans ((hdr.below (by omega)).mono (by omega))
    have hlen : (xss.take j).length ≤ j := List.length_take_le _ _
    by_cases hlt : j < n
    · obtain ⟨b0, o0, r1, m1, q1, x, rfl, hc, hx, hi, hq1, hq2⟩ := t0.row hlt
      have hclt : b0 < w.heap.size := cell_lt hc
      have c0 : wr.cell? ⟨b0, o0 + j, none⟩ = some (.slice r1 m1 q1) := (hb2.cell (p := ⟨b0, o0 + j, none⟩) hclt).trans hc
      have hrep : rI.rep w [.slice r1 m1 q1] x := rI_mk hi hq1 hq2
      have HT := Lib.hid (take_snoc' xss j x hx.out)
      have hxl := HR.out j x hx.out
      clear hc hx hi t0 hl hE0
      go_wp2_with fail
      refine (copyInts_any _ x _ (rI.mono hrep hb2) hxl).mono ?_
      rintro e w8 ⟨u, rfl, oy, z8⟩
      obtain ⟨ab, nb, cb, rfl⟩ := oI_form1 oy
      have s3 := z8.size
      have hb3 := on hb2 z8
      replace hlc := hlc.trans (turn_below z8 (Nat.le_refl _))
      replace hacc := hacc.below z8 (by omega)
      replace c0 := (z8.cell (p := ⟨b0, o0 + j, none⟩) (by simp only []; omega)).trans c0
      have hone : ∀ z ∈ [Value.slice ab nb cb], z.oneCell' = true := by intro z hz; simp at hz; subst hz; rfl
      go_wp2_with ((at_builtin; refine wpList_acc Try.underlying55 infoI rfl (by decide) (by decide) rfl _ _ _ _ [.slice ab nb cb] x hacc oy hone (by omega) (by omega) (by omega) (by omega) hlc rfl (by omega) (by omega) rfl rfl rfl rfl rfl ?_; intro v' w1 hacc' ht' hsz'))
      rw [← HT.out] at hacc'
      go_roundw
      case rel => exact ⟨j + 1, by omega, by go_num, hacc', ht'⟩
      case measure => simp [intOf]; omega
    · obtain rfl : j = n := by omega
      obtain ⟨a', n', cap2, rfl⟩ := hacc.form3
      rw [List.take_of_length_le (by omega)] at hacc
      have HO := Lib.hid (hacc.own (B := w.heap.size) (hi' := wr.heap.size) (by omega) (by omega) (by omega))
      clear hacc t0 hl
      go_wp2_with fail
      go_ret
      exact ⟨_, rfl, HO.out, hb2⟩

set_option maxHeartbeats 1000000 in
theorem copyTable_any (cs : List Value) (x : DT) (w : World) (h : rT.rep w cs x) (hn : bulk_T x ≤ 100000000) :
    Calls Try.prog 112 #[.agg cs.toArray] w fun e w' => ∃ ds, e = .returned (.agg ds.toArray) ∧ Own oT w.heap.size w'.heap.size w' ds x ∧ Below w.heap.size w w' := by
  obtain ⟨ub, un, uc, rfl, hs, hi, g1⟩ := rT_open h
  clear h
  obtain ⟨s, i, rows⟩ := x
  simp only at hs hi g1
  have hn2 : bulk_II rows ≤ 100000000 := by unfold bulk_T at hn; simp only at hn; omega
  clear hn
  have hb0 : Below w.heap.size w w := Below.refl _ _
  go_enter Try.func112, Try.ntmps112
  obtain ⟨w1, hw1⟩ : ∃ W, W = w.alloc (.cells #[.string s, .int .i64 i, .slice ub un uc] 91) := ⟨_, rfl⟩
  have z1 : Below w.heap.size w w1 := by rw [hw1]; exact (Below.refl _ _).alloc (Nat.le_refl _) _
  have s1 : w1.heap.size = w.heap.size + 1 := by rw [hw1]; simp
  have hb1 := on hb0 z1
  have b_0 : w1.cell? ⟨w.heap.size, 0, none⟩ = some (.string s) := by rw [hw1]; exact box_cell (Below.refl _ _) rfl
  have b_1 : w1.cell? ⟨w.heap.size, 1, none⟩ = some (.int .i64 i) := by rw [hw1]; exact box_cell (Below.refl _ _) rfl
  have b_2 : w1.cell? ⟨w.heap.size, 2, none⟩ = some (.slice ub un uc) := by rw [hw1]; exact box_cell (Below.refl _ _) rfl
  have b_f0 : w1.frozen? ⟨w.heap.size, 0, none⟩ = false := by rw [hw1]; exact box_frozen (Below.refl _ _)
  have b_f1 : w1.frozen? ⟨w.heap.size, 1, none⟩ = false := by rw [hw1]; exact box_frozen (Below.refl _ _)
  have b_f2 : w1.frozen? ⟨w.heap.size, 2, none⟩ = false := by rw [hw1]; exact box_frozen (Below.refl _ _)
  have raw1_b_0 := b_0
  have raw1_b_1 := b_1
  have raw1_b_2 := b_2
  rw [hw1] at raw1_b_0 raw1_b_1 raw1_b_2
  obtain ⟨w2, hw2⟩ : ∃ W, W = w1.alloc (.cells #[.string ⟨#[]⟩, .int .i64 0, .slice none 0 0] 91) := ⟨_, rfl⟩
  have z2 : Below w1.heap.size w1 w2 := by rw [hw2]; exact (Below.refl _ _).alloc (Nat.le_refl _) _
  have s2 : w2.heap.size = w1.heap.size + 1 := by rw [hw2]; simp
  have hb2 := on hb1 z2
  replace b_0 := (z2.cell (p := ⟨w.heap.size, 0, none⟩) (by simp only []; omega)).trans b_0
  replace b_1 := (z2.cell (p := ⟨w.heap.size, 1, none⟩) (by simp only []; omega)).trans b_1
  replace b_2 := (z2.cell (p := ⟨w.heap.size, 2, none⟩) (by simp only []; omega)).trans b_2
  replace b_f0 := (z2.frozen (p := ⟨w.heap.size, 0, none⟩) (by simp only []; omega)).trans b_f0
  replace b_f1 := (z2.frozen (p := ⟨w.heap.size, 1, none⟩) (by simp only []; omega)).trans b_f1
  replace b_f2 := (z2.frozen (p := ⟨w.heap.size, 2, none⟩) (by simp only []; omega)).trans b_f2
  have e2 : w1.heap.size = w.heap.size + 1 := by omega
  have r_0 : w2.cell? ⟨w1.heap.size, 0, none⟩ = some (.string ⟨#[]⟩) := by rw [hw2]; exact box_cell (Below.refl _ _) rfl
  have r_1 : w2.cell? ⟨w1.heap.size, 1, none⟩ = some (.int .i64 0) := by rw [hw2]; exact box_cell (Below.refl _ _) rfl
  have r_2 : w2.cell? ⟨w1.heap.size, 2, none⟩ = some (.slice none 0 0) := by rw [hw2]; exact box_cell (Below.refl _ _) rfl
  rw [e2] at r_0 r_1 r_2
  have r_f0 : w2.frozen? ⟨w1.heap.size, 0, none⟩ = false := by rw [hw2]; exact box_frozen (Below.refl _ _)
  have r_f1 : w2.frozen? ⟨w1.heap.size, 1, none⟩ = false := by rw [hw2]; exact box_frozen (Below.refl _ _)
  have r_f2 : w2.frozen? ⟨w1.heap.size, 2, none⟩ = false := by rw [hw2]; exact box_frozen (Below.refl _ _)
  rw [e2] at r_f0 r_f1 r_f2
  have raw2_b_0 := b_0
  have raw2_b_1 := b_1
  have raw2_b_2 := b_2
  have raw2_r_0 := r_0
  have raw2_r_1 := r_1
  have raw2_r_2 := r_2
  rw [hw2, hw1] at raw2_b_0 raw2_b_1 raw2_b_2 raw2_r_0 raw2_r_1 raw2_r_2
  go_wp2_with fail
  rw [← hw1]
  rw [← hw2]
  clear hw2 hw1
  clear raw1_b_0 raw1_b_1 raw1_b_2 raw2_b_0 raw2_b_1 raw2_b_2 raw2_r_0 raw2_r_1 raw2_r_2
  refine (copyRows_any _ rows _ (rII.mono g1 hb2) hn2).mono ?_
  rintro e w9 ⟨u, rfl, ho, z9⟩
  obtain ⟨ab, nb, cb, rfl⟩ := oII_form1 ho
  have s3 := z9.size
  have hb3 := on hb2 z9
  replace b_0 := (z9.cell (p := ⟨w.heap.size, 0, none⟩) (by simp only []; omega)).trans b_0
  replace b_1 := (z9.cell (p := ⟨w.heap.size, 1, none⟩) (by simp only []; omega)).trans b_1
  replace b_2 := (z9.cell (p := ⟨w.heap.size, 2, none⟩) (by simp only []; omega)).trans b_2
  replace b_f0 := (z9.frozen (p := ⟨w.heap.size, 0, none⟩) (by simp only []; omega)).trans b_f0
  replace b_f1 := (z9.frozen (p := ⟨w.heap.size, 1, none⟩) (by simp only []; omega)).trans b_f1
  replace b_f2 := (z9.frozen (p := ⟨w.heap.size, 2, none⟩) (by simp only []; omega)).trans b_f2
  replace r_0 := (z9.cell (p := ⟨w.heap.size + 1, 0, none⟩) (by simp only []; omega)).trans r_0
  replace r_1 := (z9.cell (p := ⟨w.heap.size + 1, 1, none⟩) (by simp only []; omega)).trans r_1
  replace r_2 := (z9.cell (p := ⟨w.heap.size + 1, 2, none⟩) (by simp only []; omega)).trans r_2
  replace r_f0 := (z9.frozen (p := ⟨w.heap.size + 1, 0, none⟩) (by simp only []; omega)).trans r_f0
  replace r_f1 := (z9.frozen (p := ⟨w.heap.size + 1, 1, none⟩) (by simp only []; omega)).trans r_f1
  replace r_f2 := (z9.frozen (p := ⟨w.heap.size + 1, 2, none⟩) (by simp only []; omega)).trans r_f2
  go_wp2_with fail
  refine bodyPost_ret (v := .agg #[.string s, .int .i64 i, .slice ab nb cb]) (by simp [results, Try.results112, go_sem, b_0, b_1, b_2, r_0, r_1, r_2, b_f0, b_f1, b_f2, r_f0, r_f1, r_f2]) rfl ⟨_, rfl, ?_, ?_⟩
  · refine oT_mk (x := (s, i, rows)) hs hi (l2 := w2.heap.size) (m2 := w9.heap.size) ?_ (by omega) (by simp [World.setCell])
    repeat (refine Own.setOut ?_ rfl (by simp only []; omega))
    exact ho
  · repeat (refine Below.setCell ?_ (by simp only []; omega) _)
    exact hb3

end Go.Proofs.Ythhbmbkecaffeaa

/- Kind Q: shape, size, copy, comparison. Written by a program. -/
namespace Go.Proofs.Ythhbmbkecaffeaa
open Go.RowKit
set_option linter.unusedVariables false
set_option linter.unusedSimpArgs false
set_option synthInstance.maxSize 2000
set_option synthInstance.maxHeartbeats 400000

abbrev DQ := Int × List DA
def rQ : RS DQ := R.pair R.int rAs
def oQ : OS DQ := O.pair O.int oAs
theorem reads_Q : Reads oQ rQ := Reads.pair Reads.int reads_As
theorem rQ_open {w : World} {cs : List Value} {x : DQ} (h : rQ.rep w cs x) : ∃ ub1 un1 uc1, cs = [.int .i64 x.1, .slice ub1 un1 uc1] ∧ I64 x.1 ∧ rAs.rep w [.slice ub1 un1 uc1] x.2 := by
  obtain ⟨c0a, c0b, rfl, ⟨rfl, hi0⟩, hr1⟩ := h
  obtain ⟨ub1, un1, uc1, rfl⟩ := rAs_form hr1
  exact ⟨_, _, _, rfl, hi0, hr1⟩
theorem rQ_form {w : World} {cs : List Value} {x : DQ} (h : rQ.rep w cs x) : ∃ ub1 un1 uc1, cs = [.int .i64 x.1, .slice ub1 un1 uc1] := by
  obtain ⟨ub1, un1, uc1, h1, _⟩ := rQ_open h
  exact ⟨_, _, _, h1⟩
theorem rQ_mk {w : World} {ub1 : Option Addr} {un1 uc1 : Nat} {x : DQ} (h0 : I64 x.1) (h1 : rAs.rep w [.slice ub1 un1 uc1] x.2) : rQ.rep w [.int .i64 x.1, .slice ub1 un1 uc1] x :=
  ⟨[.int .i64 x.1], [.slice ub1 un1 uc1], rfl, ⟨rfl, h0⟩, h1⟩
theorem oQ_form {lo hi : Nat} {w : World} {cs : List Value} {x : DQ} (h : Own oQ lo hi w cs x) : ∃ ub1 un1 uc1, cs = [.int .i64 x.1, .slice ub1 un1 uc1] := rQ_form (h.rd reads_Q)

theorem oQ_mk {lo hi l1 m1 : Nat} {w : World} {ub1 : Option Addr} {un1 uc1 : Nat} {x : DQ} (hi0 : I64 x.1) (ho1 : Own oAs l1 m1 w [.slice ub1 un1 uc1] x.2) (a1 : lo ≤ l1) (b1 : m1 ≤ hi)  : Own oQ lo hi w [.int .i64 x.1, .slice ub1 un1 uc1] x := by
  obtain ⟨f1, r1, n1, q1⟩ := ho1
  refine ⟨([] ++ f1), ⟨[.int .i64 x.1], [.slice ub1 un1 uc1], [], f1, rfl, rfl, ⟨rfl, hi0, rfl⟩, r1⟩, ?_, ?_⟩
  · try simp only [List.nil_append, List.append_nil]
    exact n1
  · intro p hp
    try simp only [List.nil_append, List.append_nil, List.mem_append] at hp
    have := q1 p hp; omega

def bulk_Q (x : DQ) : Nat := bulk_As x.2

set_option maxHeartbeats 1000000 in
theorem sz_Q (cs : List Value) (x : DQ) (left : Int) (w : World) (h : rQ.rep w cs x) (h0 : 0 ≤ left) (h1 : left ≤ 1048576) :
    Calls Try.prog 12 #[.agg cs.toArray, .int .i64 left] w fun e w' => e = .returned (.int .i64 (szR left (bulk_Q x))) ∧ Below w.heap.size w w' := by
  obtain ⟨ub1, un1, uc1, rfl, g0, g1⟩ := rQ_open h
  clear h
  have HE0 : Hid (szR left (bulk_Q x) = szR left (bulk_As x.2)) := rfl
  go_enter Try.func12, Try.ntmps12
  obtain ⟨w1, hw1⟩ : ∃ W, W = w.alloc (.cells #[.int .i64 x.1, .slice ub1 un1 uc1] 24) := ⟨_, rfl⟩
  have z1 : Below w.heap.size w w1 := by rw [hw1]; exact (Below.refl _ _).alloc (Nat.le_refl _) _
  have s1 : w1.heap.size = w.heap.size + 1 := by rw [hw1]; simp
  have bp_0 : w1.cell? ⟨w.heap.size, 0, none⟩ = some (.int .i64 x.1) := by rw [hw1]; exact box_cell (Below.refl _ _) rfl
  have bp_1 : w1.cell? ⟨w.heap.size, 1, none⟩ = some (.slice ub1 un1 uc1) := by rw [hw1]; exact box_cell (Below.refl _ _) rfl
  have hb1 := z1
  go_wp2_with fail
  rw [← hw1]
  clear hw1
  refine (sz_As _ (x.2) _ _ (rAs.mono g1 hb1) (by omega) (by omega)).mono ?_
  rintro e w2 ⟨rfl, z2⟩
  have s2 := z2.size
  have hb2 := on hb1 z2
  replace bp_0 := (z2.cell (p := ⟨w.heap.size, 0, none⟩) (by simp only []; omega)).trans bp_0
  replace bp_1 := (z2.cell (p := ⟨w.heap.size, 1, none⟩) (by simp only []; omega)).trans bp_1
  obtain ⟨q1, hq1⟩ : ∃ q, q = szR left (bulk_As (x.2)) := ⟨_, rfl⟩
  rw [← hq1]
  have hc1 := szR_cases left (bulk_As (x.2))
  rw [← hq1] at hc1
  clear hq1
  rcases hc1 with ⟨rfl, l1⟩ | ⟨hq1, l1⟩
  · have HE := Lib.hid (HE0.out.trans (szR_no0 l1))
    clear l1
    go_wp2_with fail
    go_ret
    exact ⟨ret_int HE.out.symm, hb2⟩
  have HE1 := Lib.hid (HE0.out.trans ((szR_yes l1).trans (by rw [hq1])) : szR left (bulk_Q x) = q1)
  have p1 : 0 ≤ q1 := by omega
  have p1b : q1 ≤ 1048576 := by omega
  clear hq1 l1
  go_wp2_with fail
  go_ret
  exact ⟨ret_int HE1.out.symm, hb2⟩

set_option maxHeartbeats 2000000 in
theorem to_Q (cs : List Value) (x : DQ) (w : World) (h : rQ.rep w cs x) (hn : bulk_Q x ≤ 1048576) :
    Calls Try.prog 14 #[.agg cs.toArray] w fun e w' => ∃ us, e = .returned (.agg us.toArray) ∧ Own oQ w.heap.size w'.heap.size w' us x ∧ Below w.heap.size w w' := by
  obtain ⟨ub1, un1, uc1, rfl, g0, g1⟩ := rQ_open h
  clear h
  unfold bulk_Q at hn
  have hn1 : bulk_As (x.2) ≤ 1048576 := by omega
  clear hn
  go_enter Try.func14, Try.ntmps14
  obtain ⟨W0, hW0⟩ : ∃ W, W = ((w.alloc (.cells #[.int .i64 x.1, .slice ub1 un1 uc1] 24)).alloc (.cells #[.int .i64 0, .slice none 0 0] 29)).alloc (.cells #[.int .i64 x.1, .slice none 0 0] 29) := ⟨_, rfl⟩
  have hB0 : Below w.heap.size w W0 := by rw [hW0]; exact (((Below.refl _ _).alloc (Nat.le_refl _) _).alloc (by simp) _).alloc (by simp <;> omega) _
  have t0 : W0.heap.size = w.heap.size + 1 + 1 + 1 := by rw [hW0]; simp
  have bp_0 : W0.cell? ⟨w.heap.size, 0, none⟩ = some (.int .i64 x.1) := by rw [hW0]; simp [go_sem, World.cell?_alloc_past]
  have bp_1 : W0.cell? ⟨w.heap.size, 1, none⟩ = some (.slice ub1 un1 uc1) := by rw [hW0]; simp [go_sem, World.cell?_alloc_past]
  have br_0 : W0.cell? ⟨w.heap.size + 1, 0, none⟩ = some (.int .i64 0) := by rw [hW0]; simp [go_sem, World.cell?_alloc_past]
  have fr_0 : W0.frozen? ⟨w.heap.size + 1, 0, none⟩ = false := by rw [hW0]; simp [go_sem, World.frozen?_alloc_past]
  have br_1 : W0.cell? ⟨w.heap.size + 1, 1, none⟩ = some (.slice none 0 0) := by rw [hW0]; simp [go_sem, World.cell?_alloc_past]
  have fr_1 : W0.frozen? ⟨w.heap.size + 1, 1, none⟩ = false := by rw [hW0]; simp [go_sem, World.frozen?_alloc_past]
  have bo_0 : W0.cell? ⟨w.heap.size + 1 + 1, 0, none⟩ = some (.int .i64 x.1) := by rw [hW0]; simp [go_sem, World.cell?_alloc_past]
  have fo_0 : W0.frozen? ⟨w.heap.size + 1 + 1, 0, none⟩ = false := by rw [hW0]; simp [go_sem, World.frozen?_alloc_past]
  have bo_1 : W0.cell? ⟨w.heap.size + 1 + 1, 1, none⟩ = some (.slice none 0 0) := by rw [hW0]; simp [go_sem, World.cell?_alloc_past]
  have fo_1 : W0.frozen? ⟨w.heap.size + 1 + 1, 1, none⟩ = false := by rw [hW0]; simp [go_sem, World.frozen?_alloc_past]
  go_wp2_with fail
  rw [← hW0]
  clear hW0
  refine (to_As _ (x.2) _ (rAs.mono g1 hB0) hn1).mono ?_
  rintro e w1 ⟨a1, rfl, ho1, z1⟩
  have s1 := z1.size
  obtain ⟨ab1, an1, ac1, rfl⟩ := oAs_form1 ho1
  have q1 := on hB0 z1
  replace bp_0 := (z1.cell (p := ⟨w.heap.size, 0, none⟩) (by simp only []; omega)).trans bp_0
  replace bp_1 := (z1.cell (p := ⟨w.heap.size, 1, none⟩) (by simp only []; omega)).trans bp_1
  replace br_0 := (z1.cell (p := ⟨w.heap.size + 1, 0, none⟩) (by simp only []; omega)).trans br_0
  replace fr_0 := (z1.frozen (p := ⟨w.heap.size + 1, 0, none⟩) (by simp only []; omega)).trans fr_0
  replace br_1 := (z1.cell (p := ⟨w.heap.size + 1, 1, none⟩) (by simp only []; omega)).trans br_1
  replace fr_1 := (z1.frozen (p := ⟨w.heap.size + 1, 1, none⟩) (by simp only []; omega)).trans fr_1
  replace bo_0 := (z1.cell (p := ⟨w.heap.size + 1 + 1, 0, none⟩) (by simp only []; omega)).trans bo_0
  replace fo_0 := (z1.frozen (p := ⟨w.heap.size + 1 + 1, 0, none⟩) (by simp only []; omega)).trans fo_0
  replace bo_1 := (z1.cell (p := ⟨w.heap.size + 1 + 1, 1, none⟩) (by simp only []; omega)).trans bo_1
  replace fo_1 := (z1.frozen (p := ⟨w.heap.size + 1 + 1, 1, none⟩) (by simp only []; omega)).trans fo_1
  go_wp2_with fail
  refine bodyPost_ret (v := .agg #[.int .i64 x.1, .slice ab1 an1 ac1]) (by simp [results, Try.results14, go_sem, br_0, br_1, bo_0, bo_1, fr_0, fr_1, fo_0, fo_1]) rfl ⟨_, rfl, ?_, ?_⟩
  · skip
    have hS1 : ∀ (W : World) (p : Addr) (u : Value), p.block < w.heap.size + 1 + 1 + 1 → Own oAs W0.heap.size w1.heap.size W [.slice ab1 an1 ac1] (x.2) → Own oAs W0.heap.size w1.heap.size (W.setCell p u) [.slice ab1 an1 ac1] (x.2) := fun W p u hp k9 => k9.setOut rfl (by omega)
    exact oQ_mk g0 (hS1 _ _ _ (by simp <;> omega) (hS1 _ _ _ (by simp <;> omega) (hS1 _ _ _ (by simp <;> omega) ho1))) (by omega) (by simp [World.setCell] <;> omega) 
  · exact (((q1.setCell (by simp <;> omega) _).setCell (by simp <;> omega) _).setCell (by simp <;> omega) _)

set_option maxHeartbeats 2000000 in
theorem eq_Q (cs ds : List Value) (x y : DQ) (w : World) (h : rQ.rep w cs x) (h' : rQ.rep w ds y) :
    Calls Try.prog 16 #[.agg cs.toArray, .agg ds.toArray] w fun e w' => e = .returned (.bool (decide (x = y))) ∧ Below w.heap.size w w' := by
  obtain ⟨ub1, un1, uc1, rfl, g0, g1⟩ := rQ_open h
  obtain ⟨vb1, vn1, vc1, rfl, k0, k1⟩ := rQ_open h'
  clear h h'
  have hb1 : Below w.heap.size w ((w.alloc (.cells #[.int .i64 x.1, .slice ub1 un1 uc1] 29)).alloc (.cells #[.int .i64 y.1, .slice vb1 vn1 vc1] 29)) := ((Below.refl _ _).alloc (Nat.le_refl _) _).alloc (by simp) _
  go_enter Try.func16, Try.ntmps16
  obtain ⟨w1, hw1⟩ : ∃ W, W = (w.alloc (.cells #[.int .i64 x.1, .slice ub1 un1 uc1] 29)).alloc (.cells #[.int .i64 y.1, .slice vb1 vn1 vc1] 29) := ⟨_, rfl⟩
  have s1 : w1.heap.size = w.heap.size + 1 + 1 := by rw [hw1]; simp
  rw [← hw1] at hb1
  have bc_0 : w1.cell? ⟨w.heap.size, 0, none⟩ = some (.int .i64 x.1) := by rw [hw1]; simp [go_sem, World.cell?_alloc_past]
  have bd_0 : w1.cell? ⟨w.heap.size + 1, 0, none⟩ = some (.int .i64 y.1) := by rw [hw1]; simp [go_sem, World.cell?_alloc_past]
  have bc_1 : w1.cell? ⟨w.heap.size, 1, none⟩ = some (.slice ub1 un1 uc1) := by rw [hw1]; simp [go_sem, World.cell?_alloc_past]
  have bd_1 : w1.cell? ⟨w.heap.size + 1, 1, none⟩ = some (.slice vb1 vn1 vc1) := by rw [hw1]; simp [go_sem, World.cell?_alloc_past]
  by_cases e0 : x.1 = y.1
  case neg =>
    have HE := Lib.hid (show decide (x = y) = false by simp only [decide_eq_false_iff_not]; intro h9; exact e0 (by rw [h9]))
    have hne := bne_iff_ne.2 e0
    clear e0
    go_wp2_with fail
    go_ret
    exact ⟨ret_bool HE.out.symm, by first | exact hb1 | (rw [hw1] at hb1; exact hb1)⟩
  have E0 := Lib.hid e0
  have hq0 : (x.1 != y.1) = false := by rw [e0]; simp
  clear e0
  go_wp2_with fail
  rw [← hw1]
  clear hw1
  refine (eq_As _ _ (x.2) (y.2) _ (rAs.mono g1 hb1) (rAs.mono k1 hb1)).mono ?_
  rintro e w2 ⟨rfl, z2⟩
  have s2 := z2.size
  have hb2 := on hb1 z2
  replace bc_0 := (z2.cell (p := ⟨w.heap.size, 0, none⟩) (by simp only []; omega)).trans bc_0
  replace bd_0 := (z2.cell (p := ⟨w.heap.size + 1, 0, none⟩) (by simp only []; omega)).trans bd_0
  replace bc_1 := (z2.cell (p := ⟨w.heap.size, 1, none⟩) (by simp only []; omega)).trans bc_1
  replace bd_1 := (z2.cell (p := ⟨w.heap.size + 1, 1, none⟩) (by simp only []; omega)).trans bd_1
  by_cases e1 : x.2 = y.2
  case neg =>
    have HE := Lib.hid (show decide (x = y) = false by simp only [decide_eq_false_iff_not]; intro h9; exact e1 (by rw [h9]))
    have hne : decide (x.2 = y.2) = false := by simpa using e1
    rw [hne]
    clear e1 hne
    go_wp2_with fail
    go_ret
    exact ⟨ret_bool HE.out.symm, hb2⟩
  have E1 := Lib.hid e1
  have hq1 : decide (x.2 = y.2) = true := by simpa using e1
  rw [hq1]
  clear e1 hq1
  have HE := Lib.hid (show decide (x = y) = true by simp only [decide_eq_true_eq]; exact Prod.ext E0.out (E1.out))
  go_wp2_with fail
  go_ret
  exact ⟨ret_bool HE.out.symm, hb2⟩

end Go.Proofs.Ythhbmbkecaffeaa

/- Kind Tl: shape, size, copy, comparison. Written by a program. -/
namespace Go.Proofs.Ythhbmbkecaffeaa
open Go.RowKit
set_option linter.unusedVariables false
set_option linter.unusedSimpArgs false
set_option synthInstance.maxSize 2000
set_option synthInstance.maxHeartbeats 400000

def rTl : RS (List DT) := R.slice rT
def oTl : OS (List DT) := O.slice 91 oT
theorem reads_Tl : Reads oTl rTl := Reads.slice _ reads_T
theorem rTl_form {w : World} {cs : List Value} {xs : List DT} (h : rTl.rep w cs xs) : ∃ b n c, cs = [.slice b n c] := rS_form h
theorem oTl_form1 {lo hi : Nat} {w : World} {v : Value} {xs : List DT} (h : Own oTl lo hi w [v] xs) : ∃ b n c, v = .slice b n c := oS_form1 reads_T h
def bulk_Tl (xs : List DT) : Nat := xs.length + sumBy bulk_T xs

set_option maxHeartbeats 1000000 in
theorem sz_Tl (v : Value) (xs : List DT) (left : Int) (w : World) (h : rTl.rep w [v] xs) (h0 : 0 ≤ left) (h1 : left ≤ 1048576) :
    Calls Try.prog 64 #[v, .int .i64 left] w fun e w' => e = .returned (.int .i64 (szR left (bulk_Tl xs))) ∧ Below w.heap.size w w' := by
  obtain ⟨a, cap, rfl, hn1, hn2, hi⟩ := rS_open h
  clear h
  unfold bulk_Tl
  have hsm := hi.small
  obtain ⟨n, hlen⟩ : ∃ n, xs.length = n := ⟨_, rfl⟩
  rw [hlen] at hi hsm hn1 ⊢
  by_cases hl : (n : Int) ≤ left
  case neg =>
    have HE := Lib.hid (szR_no (sumBy bulk_T xs) hl)
    clear hi
    go_enter Try.func64, Try.ntmps64
    go_wp2_with fail
    go_ret
    exact ⟨ret_int HE.out.symm, Below.refl _ _⟩
  have HE := Lib.hid (szR_add (b := sumBy bulk_T xs) hl)
  go_enter Try.func64, Try.ntmps64
  go_wp2_with fail
  go_loopw [1, 5] (fun l i wr => ∃ (j : Nat) (q : Int), j ≤ n ∧ i = .int .i64 j ∧ l = .int .i64 q ∧ 0 ≤ q ∧ q ≤ 1048576 ∧ Hid (szR left (n + sumBy bulk_T xs) = szR q (sumBy bulk_T (xs.drop j))) ∧ Below w.heap.size w wr) (fun _ i _ => n - (intOf i).toNat)
  case atStart => exact ⟨0, left - n, Nat.zero_le _, rfl, rfl, by omega, by omega, HE.out, Below.refl _ _⟩
  case round =>
    obtain ⟨j, q, hj, rfl, rfl, q0, q1, hE, hb⟩ := hrel
    clear HE
    by_cases hlt : j < n
    · obtain ⟨b, off, cs, x, rfl, hx, hr, hc⟩ := (hi.below hb).at hlt
      obtain ⟨ub2, un2, uc2, rfl⟩ := rT_form hr
      have c0 : wr.cell? ⟨b, off + j * 3, none⟩ = some (.string x.1) := by have h9 := hc 0 _ rfl; rw [← Nat.add_assoc] at h9; exact h9
      have c1 : wr.cell? ⟨b, off + j * 3 + 1, none⟩ = some (.int .i64 x.2.1) := by have h9 := hc 1 _ rfl; rw [← Nat.add_assoc] at h9; exact h9
      have c2 : wr.cell? ⟨b, off + j * 3 + 2, none⟩ = some (.slice ub2 un2 uc2) := by have h9 := hc 2 _ rfl; rw [← Nat.add_assoc] at h9; exact h9
      clear hc
      have HS := hE.out.trans (congrArg (szR q) (sumBy_drop bulk_T hx.out))
      have hcs := szR_cases q (bulk_T x)
      have hcall := sz_T _ x q wr hr q0 q1
      obtain ⟨p, hp⟩ : ∃ p, p = szR q (bulk_T x) := ⟨_, rfl⟩
      rw [← hp] at hcall hcs
      have HC := Lib.hid hcall
      clear hcall hi
      rcases hcs with ⟨rfl, l⟩ | ⟨hp2, l⟩
      · have HE := Lib.hid (HS.trans (szR_no _ l))
        clear hp HS l hE
        go_wp2_with fail
        refine HC.out.mono ?_
        rintro e w1 ⟨rfl, z1⟩
        go_wp2_with fail
        go_ret
        exact ⟨ret_int HE.out.symm, on hb z1⟩
      · have HE := Lib.hid (HS.trans ((szR_add l).trans (by rw [← hp2])) : szR left (n + sumBy bulk_T xs) = szR p (sumBy bulk_T (xs.drop (j + 1))))
        have p0 : 0 ≤ p := by omega
        have p1 : p ≤ 1048576 := by omega
        clear hp hp2 HS l hE
        go_wp2_with fail
        refine HC.out.mono ?_
        rintro e w1 ⟨rfl, z1⟩
        go_wp2_with fail
        go_roundw
        case rel => exact ⟨j + 1, p, by omega, by go_num, rfl, p0, p1, HE, on hb z1⟩
        case measure => simp [intOf]; omega
    · have HE := Lib.hid (hE.out.trans (by rw [sumBy_end _ (by omega)]; unfold szR; rw [if_pos (by omega)]; simp) : szR left (n + sumBy bulk_T xs) = q)
      clear hi hE
      go_wp2_with fail
      go_ret
      exact ⟨ret_int HE.out.symm, hb⟩

set_option maxHeartbeats 2000000 in
set_option maxRecDepth 100000 in
theorem to_Tl (v : Value) (xs : List DT) (w : World) (h : rTl.rep w [v] xs) (hn : bulk_Tl xs ≤ 1048576) :
    Calls Try.prog 67 #[v] w fun e w' => ∃ u, e = .returned u ∧ Own oTl w.heap.size w'.heap.size w' [u] xs ∧ Below w.heap.size w w' := by
  obtain ⟨a, cap, rfl, hn1, hn2, hi⟩ := rS_open h
  clear h
  unfold bulk_Tl at hn
  obtain ⟨n, hlen⟩ : ∃ n, xs.length = n := ⟨_, rfl⟩
  rw [hlen] at hi hn hn1 ⊢
  have hbk : ∀ (j : Nat) x, xs[j]? = some x → bulk_T x ≤ 1048576 := fun j x hx => by have := sumBy_mem bulk_T hx; omega
  have hn3 : n ≤ 100000000 := by omega
  clear hn
  go_enter Try.func67, Try.ntmps67
  go_wp2_with (at_make; refine wpList_mkS (size := 3) (bytes := 48) (z := .agg #[.string ⟨#[]⟩, .int .i64 0, .slice none 0 0]) rfl rfl rfl (by decide) (by decide) oT xs _ _ n hn3 rfl rfl rfl rfl ?_; intro w1 hp1 hb1 hz1)
  go_wp2_with fail
  go_loopw [4] (fun k wr => ∃ j : Nat, j ≤ n ∧ k = .int .i64 j ∧ Part 91 oT [.string ⟨#[]⟩, .int .i64 0, .slice none 0 0] w.heap.size wr w.heap.size n j xs ∧ Below w.heap.size w wr) (fun k _ => n - (intOf k).toNat)
  case atStart => exact ⟨0, Nat.zero_le _, rfl, hp1, hb1⟩
  case round =>
    obtain ⟨j, hj, rfl, hp, hb⟩ := hrel
    clear hp1 hb1
    by_cases hlt : j < n
    · obtain ⟨b, off, cs, x, rfl, hx, hr, hc⟩ := (hi.below hb).at hlt
      obtain ⟨ub2, un2, uc2, rfl⟩ := rT_form hr
      have c0 : wr.cell? ⟨b, off + j * 3, none⟩ = some (.string x.1) := by have h9 := hc 0 _ rfl; rw [← Nat.add_assoc] at h9; exact h9
      have c1 : wr.cell? ⟨b, off + j * 3 + 1, none⟩ = some (.int .i64 x.2.1) := by have h9 := hc 1 _ rfl; rw [← Nat.add_assoc] at h9; exact h9
      have c2 : wr.cell? ⟨b, off + j * 3 + 2, none⟩ = some (.slice ub2 un2 uc2) := by have h9 := hc 2 _ rfl; rw [← Nat.add_assoc] at h9; exact h9
      clear hc
      have hg : w.heap.size < wr.heap.size := by obtain ⟨_, _, _, _, _, _, _, h9⟩ := hp; exact h9
      have HC := Lib.hid (to_T _ x wr hr (hbk j x hx.out))
      have HI := Lib.hid hi
      go_wp2_with fail
      refine HC.out.mono ?_
      rintro e w1 ⟨d, rfl, ho, z1⟩
      obtain ⟨db2, dn2, dc2, rfl⟩ := oT_form ho
      have s1 := z1.size
      have hp1 : Part 91 oT [.string ⟨#[]⟩, .int .i64 0, .slice none 0 0] w.heap.size w1 w.heap.size n j xs := hp.below z1 (Nat.le_refl _)
      obtain ⟨⟨e0, f0⟩, g0⟩ := hp1.cell rfl hlt (by omega) 0 (by decide)
      replace f0 : w1.cell? ⟨w.heap.size, j * 3, none⟩ = some e0 := f0
      replace g0 : w1.frozen? ⟨w.heap.size, j * 3, none⟩ = false := g0
      obtain ⟨⟨e1, f1⟩, g1⟩ := hp1.cell rfl hlt (by omega) 1 (by decide)
      replace f1 : w1.cell? ⟨w.heap.size, j * 3 + 1, none⟩ = some e1 := f1
      replace g1 : w1.frozen? ⟨w.heap.size, j * 3 + 1, none⟩ = false := g1
      obtain ⟨⟨e2, f2⟩, g2⟩ := hp1.cell rfl hlt (by omega) 2 (by decide)
      replace f2 : w1.cell? ⟨w.heap.size, j * 3 + 2, none⟩ = some e2 := f2
      replace g2 : w1.frozen? ⟨w.heap.size, j * 3 + 2, none⟩ = false := g2
      have HP := Lib.hid (hp1.step (cs := [.string x.1, .int .i64 x.2.1, .slice db2 dn2 dc2]) rfl hlt hx.out ho hg ⟨wr, hp, Nat.le_refl _, fun p hp => z1.block p hp⟩ (Nat.le_refl _) (by omega))
      have hb1 := on hb z1
      clear ho hp hp1
      go_wp2_with fail
      go_roundw
      case rel => exact ⟨j + 1, by omega, by go_num, HP.out, (((hb1.setCell (Nat.le_refl _) _).setCell (Nat.le_refl _) _).setCell (Nat.le_refl _) _)⟩
      case measure => simp [intOf]; omega
    · have hjn : j = n := by omega
      subst hjn
      have HO := Lib.hid (hp.done hlen (by omega))
      clear hp hi
      go_wp2_with fail
      go_ret
      exact ⟨_, rfl, HO.out, hb⟩

set_option maxHeartbeats 2000000 in
theorem eq_Tl (u v : Value) (xs ys : List DT) (w : World) (h : rTl.rep w [u] xs) (h' : rTl.rep w [v] ys) :
    Calls Try.prog 70 #[u, v] w fun e w' => e = .returned (.bool (decide (xs = ys))) ∧ Below w.heap.size w w' := by
  obtain ⟨a, cap, rfl, _, _, hi⟩ := rS_open h
  obtain ⟨a', cap', rfl, _, _, hi'⟩ := rS_open h'
  clear h h'
  have hn := hi.small
  have hn' := hi'.small
  obtain ⟨n, hl⟩ : ∃ n, xs.length = n := ⟨_, rfl⟩
  obtain ⟨m, hl'⟩ : ∃ n, ys.length = n := ⟨_, rfl⟩
  rw [hl] at hi hn ⊢
  rw [hl'] at hi' hn' ⊢
  by_cases hnm : n = m
  case neg =>
    have HE := Lib.hid (show decide (xs = ys) = false by simp only [decide_eq_false_iff_not]; intro e; subst e; omega)
    have hne : ((n : Int) != (m : Int)) = true := by rw [bne_iff_ne]; omega
    clear hl hl' hi hi'
    go_enter Try.func70, Try.ntmps70
    go_wp2_with fail
    go_ret
    exact ⟨ret_bool HE.out.symm, Below.refl _ _⟩
  subst hnm
  go_enter Try.func70, Try.ntmps70
  go_wp2_with fail
  go_loopw [5] (fun k wr => ∃ j : Nat, j ≤ n ∧ k = .int .i64 j ∧ Hid (xs.take j = ys.take j) ∧ Below w.heap.size w wr) (fun k _ => n - (intOf k).toNat)
  case atStart => exact ⟨0, Nat.zero_le _, rfl, rfl, Below.refl _ _⟩
  case round =>
    obtain ⟨j, hj, rfl, hE, hb⟩ := hrel
    by_cases hlt : j < n
    · obtain ⟨b, off, cs, x, rfl, hx, hr, hc⟩ := (hi.below hb).at hlt
      obtain ⟨b', off', ds, y, rfl, hy, hr', hd⟩ := (hi'.below hb).at hlt
      obtain ⟨ub2, un2, uc2, rfl⟩ := rT_form hr
      obtain ⟨vb2, vn2, vc2, rfl⟩ := rT_form hr'
      have c0 : wr.cell? ⟨b, off + j * 3, none⟩ = some (.string x.1) := by have h9 := hc 0 _ rfl; rw [← Nat.add_assoc] at h9; exact h9
      have c1 : wr.cell? ⟨b, off + j * 3 + 1, none⟩ = some (.int .i64 x.2.1) := by have h9 := hc 1 _ rfl; rw [← Nat.add_assoc] at h9; exact h9
      have c2 : wr.cell? ⟨b, off + j * 3 + 2, none⟩ = some (.slice ub2 un2 uc2) := by have h9 := hc 2 _ rfl; rw [← Nat.add_assoc] at h9; exact h9
      have d0 : wr.cell? ⟨b', off' + j * 3, none⟩ = some (.string y.1) := by have h9 := hd 0 _ rfl; rw [← Nat.add_assoc] at h9; exact h9
      have d1 : wr.cell? ⟨b', off' + j * 3 + 1, none⟩ = some (.int .i64 y.2.1) := by have h9 := hd 1 _ rfl; rw [← Nat.add_assoc] at h9; exact h9
      have d2 : wr.cell? ⟨b', off' + j * 3 + 2, none⟩ = some (.slice vb2 vn2 vc2) := by have h9 := hd 2 _ rfl; rw [← Nat.add_assoc] at h9; exact h9
      have hcall := fun (W : World) (hW : Below wr.heap.size wr W) => eq_T _ _ x y W (rT.mono hr hW) (rT.mono hr' hW)
      obtain ⟨t, ht⟩ : ∃ t, t = decide (x = y) := ⟨_, rfl⟩
      rw [← ht] at hcall
      have HC := Lib.hid hcall
      clear hcall hi hi' hr hr' hc hd
      have HT : Hid (if t = true then xs.take (j + 1) = ys.take (j + 1) else decide (xs = ys) = false) := by
        cases t
        · simp only [Bool.false_eq_true, if_false]
          have hxy : x ≠ y := by simpa using ht.symm
          simp only [Hid, Bool.false_eq_true, if_false, decide_eq_false_iff_not]; intro e; subst e; exact hxy (Option.some.inj (hx.out.symm.trans hy.out))
        · have hxy : x = y := by simpa using ht.symm
          simp only [Hid, if_true]; rw [take_snoc' xs j x hx.out, take_snoc' ys j y hy.out, hE.out, hxy]
      clear ht hx hy hE
      have lb : b < wr.heap.size := cell_lt c0
      have lb' : b' < wr.heap.size := cell_lt d0
      go_wp2_with fail
      go_region_held3 (fun W => W.cell? ⟨b, off + j * 3, none⟩ = some (.string x.1) ∧ W.cell? ⟨b, off + j * 3 + 1, none⟩ = some (.int .i64 x.2.1) ∧ W.cell? ⟨b, off + j * 3 + 2, none⟩ = some (.slice ub2 un2 uc2) ∧ W.cell? ⟨b', off' + j * 3, none⟩ = some (.string y.1) ∧ W.cell? ⟨b', off' + j * 3 + 1, none⟩ = some (.int .i64 y.2.1) ∧ W.cell? ⟨b', off' + j * 3 + 2, none⟩ = some (.slice vb2 vn2 vc2)) (first | exact ⟨c0, c1, c2, d0, d1, d2⟩ | assumption) ((go_at_call 113; refine (HC.out _ (Below.refl _ _).drew).mono ?_; rintro e w1 ⟨rfl, z1⟩; replace z1 : Below wr.heap.size wr w1 := (Below.refl _ _).drew.trans z1; have hS0 := (⟨(z1.cell (p := ⟨b, off + j * 3, none⟩) (by simp only []; omega)).trans c0, (z1.cell (p := ⟨b, off + j * 3 + 1, none⟩) (by simp only []; omega)).trans c1, (z1.cell (p := ⟨b, off + j * 3 + 2, none⟩) (by simp only []; omega)).trans c2, (z1.cell (p := ⟨b', off' + j * 3, none⟩) (by simp only []; omega)).trans d0, (z1.cell (p := ⟨b', off' + j * 3 + 1, none⟩) (by simp only []; omega)).trans d1, (z1.cell (p := ⟨b', off' + j * 3 + 2, none⟩) (by simp only []; omega)).trans d2⟩ : (fun W => W.cell? ⟨b, off + j * 3, none⟩ = some (.string x.1) ∧ W.cell? ⟨b, off + j * 3 + 1, none⟩ = some (.int .i64 x.2.1) ∧ W.cell? ⟨b, off + j * 3 + 2, none⟩ = some (.slice ub2 un2 uc2) ∧ W.cell? ⟨b', off' + j * 3, none⟩ = some (.string y.1) ∧ W.cell? ⟨b', off' + j * 3 + 1, none⟩ = some (.int .i64 y.2.1) ∧ W.cell? ⟨b', off' + j * 3 + 2, none⟩ = some (.slice vb2 vn2 vc2)) w1)))
      replace z1 : Below wr.heap.size wr w1 := z1
      have z2 := on hb z1
      cases t
      · have HE : Hid (decide (xs = ys) = false) := by simpa [Hid] using HT.out
        go_wp2_with fail
        go_ret
        exact ⟨ret_bool HE.out.symm, z2⟩
      · have HE : Hid (xs.take (j + 1) = ys.take (j + 1)) := by simpa [Hid] using HT.out
        go_wp2_with fail
        go_roundw
        case rel => exact ⟨j + 1, by omega, by go_num, HE.out, z2⟩
        case measure => simp [intOf]; omega
    · have HE := Lib.hid (show decide (xs = ys) = true by
        have e := hE.out
        rw [List.take_of_length_le (by omega), List.take_of_length_le (by omega)] at e
        simp [e])
      clear hi hi' hl hl'
      go_wp2_with fail
      go_ret
      exact ⟨ret_bool HE.out.symm, hb⟩

end Go.Proofs.Ythhbmbkecaffeaa
