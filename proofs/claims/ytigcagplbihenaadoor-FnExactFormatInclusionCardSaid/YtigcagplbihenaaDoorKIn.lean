/- Kind In: shape, size, copy, comparison. Written by a program. -/
import Derived.Test.YtigcagplbihenaaDoorUniI
import Derived.Test.YtigcagplbihenaaDoorGen
import Derived.Deep.RegionHeld3
namespace Go.Proofs.YtigcagplbihenaaDoor
open Go.RowKit
set_option linter.unusedVariables false
set_option linter.unusedSimpArgs false
set_option synthInstance.maxSize 2000
set_option synthInstance.maxHeartbeats 400000

abbrev DIn := ByteArray × Int × ByteArray × Int
def rIn : RS DIn := R.pair R.str (R.pair R.int (R.pair R.str R.int))
def oIn : OS DIn := O.pair O.str (O.pair O.int (O.pair O.str O.int))
theorem reads_In : Reads oIn rIn := Reads.pair Reads.str (Reads.pair Reads.int (Reads.pair Reads.str Reads.int))
theorem rIn_open {w : World} {cs : List Value} {x : DIn} (h : rIn.rep w cs x) :  cs = [.string x.1, .int .i64 x.2.1, .string x.2.2.1, .int .i64 x.2.2.2] ∧ x.1.size ≤ 9223372036854775807 ∧ I64 x.2.1 ∧ x.2.2.1.size ≤ 9223372036854775807 ∧ I64 x.2.2.2 := by
  obtain ⟨c0a, c0b, rfl, ⟨rfl, hs0⟩, ⟨c1a, c1b, rfl, ⟨rfl, hi1⟩, ⟨c2a, c2b, rfl, ⟨rfl, hs2⟩, ⟨rfl, hi3⟩⟩⟩⟩ := h
  exact ⟨rfl, hs0, hi1, hs2, hi3⟩
theorem rIn_form {w : World} {cs : List Value} {x : DIn} (h : rIn.rep w cs x) :  cs = [.string x.1, .int .i64 x.2.1, .string x.2.2.1, .int .i64 x.2.2.2] := by
  obtain ⟨h1, _⟩ := rIn_open h
  exact h1
theorem rIn_mk {w : World} {x : DIn} (h0 : x.1.size ≤ 9223372036854775807) (h1 : I64 x.2.1) (h2 : x.2.2.1.size ≤ 9223372036854775807) (h3 : I64 x.2.2.2) : rIn.rep w [.string x.1, .int .i64 x.2.1, .string x.2.2.1, .int .i64 x.2.2.2] x :=
  ⟨[.string x.1], [.int .i64 x.2.1, .string x.2.2.1, .int .i64 x.2.2.2], rfl, ⟨rfl, h0⟩, ⟨[.int .i64 x.2.1], [.string x.2.2.1, .int .i64 x.2.2.2], rfl, ⟨rfl, h1⟩, ⟨[.string x.2.2.1], [.int .i64 x.2.2.2], rfl, ⟨rfl, h2⟩, ⟨rfl, h3⟩⟩⟩⟩
theorem oIn_form {lo hi : Nat} {w : World} {cs : List Value} {x : DIn} (h : Own oIn lo hi w cs x) :  cs = [.string x.1, .int .i64 x.2.1, .string x.2.2.1, .int .i64 x.2.2.2] := rIn_form (h.rd reads_In)

theorem oIn_mk {lo hi : Nat} {w : World} {x : DIn} (hs0 : x.1.size ≤ 9223372036854775807) (hi1 : I64 x.2.1) (hs2 : x.2.2.1.size ≤ 9223372036854775807) (hi3 : I64 x.2.2.2)   : Own oIn lo hi w [.string x.1, .int .i64 x.2.1, .string x.2.2.1, .int .i64 x.2.2.2] x := by
  refine ⟨([] ++ ([] ++ ([] ++ []))), ⟨[.string x.1], [.int .i64 x.2.1, .string x.2.2.1, .int .i64 x.2.2.2], [], ([] ++ ([] ++ [])), rfl, rfl, ⟨rfl, hs0, rfl⟩, ⟨[.int .i64 x.2.1], [.string x.2.2.1, .int .i64 x.2.2.2], [], ([] ++ []), rfl, rfl, ⟨rfl, hi1, rfl⟩, ⟨[.string x.2.2.1], [.int .i64 x.2.2.2], [], [], rfl, rfl, ⟨rfl, hs2, rfl⟩, ⟨rfl, hi3, rfl⟩⟩⟩⟩, ?_, ?_⟩
  · simp
  · intro k hk; simp at hk

def bulk_In (x : DIn) : Nat := (x.1.size) + (x.2.2.1.size)

set_option maxHeartbeats 1000000 in
theorem sz_In (cs : List Value) (x : DIn) (left : Int) (w : World) (h : rIn.rep w cs x) (h0 : 0 ≤ left) (h1 : left ≤ 1048576) :
    Calls Tryd.prog 10 #[.agg cs.toArray, .int .i64 left] w fun e w' => e = .returned (.int .i64 (szR left (bulk_In x))) ∧ Below w.heap.size w w' := by
  obtain ⟨rfl, g0, g1, g2, g3⟩ := rIn_open h
  clear h
  have HE0 : Hid (szR left (bulk_In x) = szR left ((x.1.size) + (x.2.2.1.size))) := rfl
  go_enter Tryd.func10, Tryd.ntmps10
  obtain ⟨w1, hw1⟩ : ∃ W, W = w.alloc (.cells #[.string x.1, .int .i64 x.2.1, .string x.2.2.1, .int .i64 x.2.2.2] 23) := ⟨_, rfl⟩
  have z1 : Below w.heap.size w w1 := by rw [hw1]; exact (Below.refl _ _).alloc (Nat.le_refl _) _
  have s1 : w1.heap.size = w.heap.size + 1 := by rw [hw1]; simp
  have bp_0 : w1.cell? ⟨w.heap.size, 0, none⟩ = some (.string x.1) := by rw [hw1]; exact box_cell (Below.refl _ _) rfl
  have bp_1 : w1.cell? ⟨w.heap.size, 1, none⟩ = some (.int .i64 x.2.1) := by rw [hw1]; exact box_cell (Below.refl _ _) rfl
  have bp_2 : w1.cell? ⟨w.heap.size, 2, none⟩ = some (.string x.2.2.1) := by rw [hw1]; exact box_cell (Below.refl _ _) rfl
  have bp_3 : w1.cell? ⟨w.heap.size, 3, none⟩ = some (.int .i64 x.2.2.2) := by rw [hw1]; exact box_cell (Below.refl _ _) rfl
  have hb1 := z1
  by_cases l0 : (x.1.size : Int) ≤ left
  case neg =>
    have HE := Lib.hid (HE0.out.trans (szR_no _ l0))
    go_wp2_with fail
    go_ret
    exact ⟨ret_int HE.out.symm, by first | exact hb1 | (have h9 := hb1; rw [hw1] at h9; exact h9)⟩
  have HE1 := Lib.hid (HE0.out.trans (szR_add l0))
  by_cases l2 : (x.2.2.1.size : Int) ≤ (left - x.1.size)
  case neg =>
    have HE := Lib.hid (HE1.out.trans (szR_no0 l2))
    go_wp2_with fail
    go_ret
    exact ⟨ret_int HE.out.symm, by first | exact hb1 | (have h9 := hb1; rw [hw1] at h9; exact h9)⟩
  have HE2 := Lib.hid (HE1.out.trans (szR_yes l2))
  go_wp2_with fail
  go_ret
  exact ⟨ret_int HE2.out.symm, by first | exact hb1 | (have h9 := hb1; rw [hw1] at h9; exact h9)⟩

set_option maxHeartbeats 2000000 in
theorem to_In (cs : List Value) (x : DIn) (w : World) (h : rIn.rep w cs x) :
    Calls Tryd.prog 12 #[.agg cs.toArray] w fun e w' => e = .returned (.agg cs.toArray) ∧ Below w.heap.size w w' := by
  obtain ⟨rfl, g0, g1, g2, g3⟩ := rIn_open h
  clear h
  go_enter Tryd.func12, Tryd.ntmps12
  go_wp2_with fail
  refine bodyPost_ret (v := .agg #[.string x.1, .int .i64 x.2.1, .string x.2.2.1, .int .i64 x.2.2.2]) (by simp [results, Tryd.results12, go_sem]) rfl ⟨rfl, ?_⟩
  exact ((((Below.refl _ _).alloc (Nat.le_refl _) _).alloc (by simp) _).alloc (by simp <;> omega) _)

set_option maxHeartbeats 2000000 in
theorem eq_In (cs ds : List Value) (x y : DIn) (w : World) (h : rIn.rep w cs x) (h' : rIn.rep w ds y) :
    Calls Tryd.prog 16 #[.agg cs.toArray, .agg ds.toArray] w fun e w' => e = .returned (.bool (decide (x = y))) ∧ Below w.heap.size w w' := by
  obtain ⟨rfl, g0, g1, g2, g3⟩ := rIn_open h
  obtain ⟨rfl, k0, k1, k2, k3⟩ := rIn_open h'
  clear h h'
  have hb1 : Below w.heap.size w ((w.alloc (.cells #[.string x.1, .int .i64 x.2.1, .string x.2.2.1, .int .i64 x.2.2.2] 26)).alloc (.cells #[.string y.1, .int .i64 y.2.1, .string y.2.2.1, .int .i64 y.2.2.2] 26)) := ((Below.refl _ _).alloc (Nat.le_refl _) _).alloc (by simp) _
  go_enter Tryd.func16, Tryd.ntmps16
  obtain ⟨w1, hw1⟩ : ∃ W, W = (w.alloc (.cells #[.string x.1, .int .i64 x.2.1, .string x.2.2.1, .int .i64 x.2.2.2] 26)).alloc (.cells #[.string y.1, .int .i64 y.2.1, .string y.2.2.1, .int .i64 y.2.2.2] 26) := ⟨_, rfl⟩
  have s1 : w1.heap.size = w.heap.size + 1 + 1 := by rw [hw1]; simp
  rw [← hw1] at hb1
  have bc_0 : w1.cell? ⟨w.heap.size, 0, none⟩ = some (.string x.1) := by rw [hw1]; simp [go_sem, World.cell?_alloc_past]
  have bd_0 : w1.cell? ⟨w.heap.size + 1, 0, none⟩ = some (.string y.1) := by rw [hw1]; simp [go_sem, World.cell?_alloc_past]
  have bc_1 : w1.cell? ⟨w.heap.size, 1, none⟩ = some (.int .i64 x.2.1) := by rw [hw1]; simp [go_sem, World.cell?_alloc_past]
  have bd_1 : w1.cell? ⟨w.heap.size + 1, 1, none⟩ = some (.int .i64 y.2.1) := by rw [hw1]; simp [go_sem, World.cell?_alloc_past]
  have bc_2 : w1.cell? ⟨w.heap.size, 2, none⟩ = some (.string x.2.2.1) := by rw [hw1]; simp [go_sem, World.cell?_alloc_past]
  have bd_2 : w1.cell? ⟨w.heap.size + 1, 2, none⟩ = some (.string y.2.2.1) := by rw [hw1]; simp [go_sem, World.cell?_alloc_past]
  have bc_3 : w1.cell? ⟨w.heap.size, 3, none⟩ = some (.int .i64 x.2.2.2) := by rw [hw1]; simp [go_sem, World.cell?_alloc_past]
  have bd_3 : w1.cell? ⟨w.heap.size + 1, 3, none⟩ = some (.int .i64 y.2.2.2) := by rw [hw1]; simp [go_sem, World.cell?_alloc_past]
  by_cases e0 : x.1 = y.1
  case neg =>
    have HE := Lib.hid (show decide (x = y) = false by simp only [decide_eq_false_iff_not]; intro h9; exact e0 (by rw [h9]))
    have hne := bytes_ne e0
    clear e0
    go_wp2_with fail
    go_ret
    exact ⟨ret_bool HE.out.symm, by first | exact hb1 | (rw [hw1] at hb1; exact hb1)⟩
  have E0 := Lib.hid e0
  have hq0 : (x.1.toList == y.1.toList) = true := by rw [e0]; simp
  clear e0
  by_cases e1 : x.2.1 = y.2.1
  case neg =>
    have HE := Lib.hid (show decide (x = y) = false by simp only [decide_eq_false_iff_not]; intro h9; exact e1 (by rw [h9]))
    have hne := bne_iff_ne.2 e1
    clear e1
    go_wp2_with fail
    go_ret
    exact ⟨ret_bool HE.out.symm, by first | exact hb1 | (rw [hw1] at hb1; exact hb1)⟩
  have E1 := Lib.hid e1
  have hq1 : (x.2.1 != y.2.1) = false := by rw [e1]; simp
  clear e1
  by_cases e2 : x.2.2.1 = y.2.2.1
  case neg =>
    have HE := Lib.hid (show decide (x = y) = false by simp only [decide_eq_false_iff_not]; intro h9; exact e2 (by rw [h9]))
    have hne := bytes_ne e2
    clear e2
    go_wp2_with fail
    go_ret
    exact ⟨ret_bool HE.out.symm, by first | exact hb1 | (rw [hw1] at hb1; exact hb1)⟩
  have E2 := Lib.hid e2
  have hq2 : (x.2.2.1.toList == y.2.2.1.toList) = true := by rw [e2]; simp
  clear e2
  by_cases e3 : x.2.2.2 = y.2.2.2
  case neg =>
    have HE := Lib.hid (show decide (x = y) = false by simp only [decide_eq_false_iff_not]; intro h9; exact e3 (by rw [h9]))
    have hne := bne_iff_ne.2 e3
    clear e3
    go_wp2_with fail
    go_ret
    exact ⟨ret_bool HE.out.symm, by first | exact hb1 | (rw [hw1] at hb1; exact hb1)⟩
  have E3 := Lib.hid e3
  have hq3 : (x.2.2.2 != y.2.2.2) = false := by rw [e3]; simp
  clear e3
  have HE := Lib.hid (show decide (x = y) = true by simp only [decide_eq_true_eq]; exact Prod.ext E0.out (Prod.ext E1.out (Prod.ext E2.out (E3.out))))
  go_wp2_with fail
  go_ret
  exact ⟨ret_bool HE.out.symm, by first | exact hb1 | (rw [hw1] at hb1; exact hb1)⟩

end Go.Proofs.YtigcagplbihenaaDoor
