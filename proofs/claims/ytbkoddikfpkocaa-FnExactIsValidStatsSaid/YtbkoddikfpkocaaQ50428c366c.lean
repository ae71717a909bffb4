/- Texts joined for one claim: KTs, MGl, MII, OGl, RowMem, Sel, CompF, CopyS, EqSpec3, GrpP, KEqual, MTs, OTs, Two. -/
import Derived.Test.YtbkoddikfpkocaaQ5622a8ed4f
import Derived.Deep.RegionHeld3
import Derived.Shelf.SlSortCmp.Whole1
import Derived.Lib.SliceRun

/- Kind Ts: shape, size, copy, comparison. Written by a program. -/
namespace Go.Proofs.Ytbkoddikfpkocaa
open Go.RowKit
set_option linter.unusedVariables false
set_option linter.unusedSimpArgs false
set_option synthInstance.maxSize 2000
set_option synthInstance.maxHeartbeats 400000

abbrev DTs := ByteArray × Int × Int × List DGs
def rTs : RS DTs := R.pair R.str (R.pair R.int (R.pair R.int rGl))
def oTs : OS DTs := O.pair O.str (O.pair O.int (O.pair O.int oGl))
theorem reads_Ts : Reads oTs rTs := Reads.pair Reads.str (Reads.pair Reads.int (Reads.pair Reads.int reads_Gl))
theorem rTs_open {w : World} {cs : List Value} {x : DTs} (h : rTs.rep w cs x) : ∃ ub3 un3 uc3, cs = [.string x.1, .int .i64 x.2.1, .int .i64 x.2.2.1, .slice ub3 un3 uc3] ∧ x.1.size ≤ 9223372036854775807 ∧ I64 x.2.1 ∧ I64 x.2.2.1 ∧ rGl.rep w [.slice ub3 un3 uc3] x.2.2.2 := by
  obtain ⟨c0a, c0b, rfl, ⟨rfl, hs0⟩, ⟨c1a, c1b, rfl, ⟨rfl, hi1⟩, ⟨c2a, c2b, rfl, ⟨rfl, hi2⟩, hr3⟩⟩⟩ := h
  obtain ⟨ub3, un3, uc3, rfl⟩ := rGl_form hr3
  exact ⟨_, _, _, rfl, hs0, hi1, hi2, hr3⟩
theorem rTs_form {w : World} {cs : List Value} {x : DTs} (h : rTs.rep w cs x) : ∃ ub3 un3 uc3, cs = [.string x.1, .int .i64 x.2.1, .int .i64 x.2.2.1, .slice ub3 un3 uc3] := by
  obtain ⟨ub3, un3, uc3, h1, _⟩ := rTs_open h
  exact ⟨_, _, _, h1⟩
theorem rTs_mk {w : World} {ub3 : Option Addr} {un3 uc3 : Nat} {x : DTs} (h0 : x.1.size ≤ 9223372036854775807) (h1 : I64 x.2.1) (h2 : I64 x.2.2.1) (h3 : rGl.rep w [.slice ub3 un3 uc3] x.2.2.2) : rTs.rep w [.string x.1, .int .i64 x.2.1, .int .i64 x.2.2.1, .slice ub3 un3 uc3] x :=
  ⟨[.string x.1], [.int .i64 x.2.1, .int .i64 x.2.2.1, .slice ub3 un3 uc3], rfl, ⟨rfl, h0⟩, ⟨[.int .i64 x.2.1], [.int .i64 x.2.2.1, .slice ub3 un3 uc3], rfl, ⟨rfl, h1⟩, ⟨[.int .i64 x.2.2.1], [.slice ub3 un3 uc3], rfl, ⟨rfl, h2⟩, h3⟩⟩⟩
theorem oTs_form {lo hi : Nat} {w : World} {cs : List Value} {x : DTs} (h : Own oTs lo hi w cs x) : ∃ ub3 un3 uc3, cs = [.string x.1, .int .i64 x.2.1, .int .i64 x.2.2.1, .slice ub3 un3 uc3] := rTs_form (h.rd reads_Ts)

theorem oTs_mk {lo hi l3 m3 : Nat} {w : World} {ub3 : Option Addr} {un3 uc3 : Nat} {x : DTs} (hs0 : x.1.size ≤ 9223372036854775807) (hi1 : I64 x.2.1) (hi2 : I64 x.2.2.1) (ho3 : Own oGl l3 m3 w [.slice ub3 un3 uc3] x.2.2.2) (a3 : lo ≤ l3) (b3 : m3 ≤ hi)  : Own oTs lo hi w [.string x.1, .int .i64 x.2.1, .int .i64 x.2.2.1, .slice ub3 un3 uc3] x := by
  obtain ⟨f3, r3, n3, q3⟩ := ho3
  refine ⟨([] ++ ([] ++ ([] ++ f3))), ⟨[.string x.1], [.int .i64 x.2.1, .int .i64 x.2.2.1, .slice ub3 un3 uc3], [], ([] ++ ([] ++ f3)), rfl, rfl, ⟨rfl, hs0, rfl⟩, ⟨[.int .i64 x.2.1], [.int .i64 x.2.2.1, .slice ub3 un3 uc3], [], ([] ++ f3), rfl, rfl, ⟨rfl, hi1, rfl⟩, ⟨[.int .i64 x.2.2.1], [.slice ub3 un3 uc3], [], f3, rfl, rfl, ⟨rfl, hi2, rfl⟩, r3⟩⟩⟩, ?_, ?_⟩
  · try simp only [List.nil_append, List.append_nil]
    exact n3
  · intro p hp
    try simp only [List.nil_append, List.append_nil, List.mem_append] at hp
    have := q3 p hp; omega

def bulk_Ts (x : DTs) : Nat := (x.1.size) + (bulk_Gl x.2.2.2)

set_option maxHeartbeats 1000000 in
theorem sz_Ts (cs : List Value) (x : DTs) (left : Int) (w : World) (h : rTs.rep w cs x) (h0 : 0 ≤ left) (h1 : left ≤ 1048576) :
    Calls Try.prog 88 #[.agg cs.toArray, .int .i64 left] w fun e w' => e = .returned (.int .i64 (szR left (bulk_Ts x))) ∧ Below w.heap.size w w' := by
  obtain ⟨ub3, un3, uc3, rfl, g0, g1, g2, g3⟩ := rTs_open h
  clear h
  have HE0 : Hid (szR left (bulk_Ts x) = szR left ((x.1.size) + (bulk_Gl x.2.2.2))) := rfl
  go_enter Try.func88, Try.ntmps88
  obtain ⟨w1, hw1⟩ : ∃ W, W = w.alloc (.cells #[.string x.1, .int .i64 x.2.1, .int .i64 x.2.2.1, .slice ub3 un3 uc3] 108) := ⟨_, rfl⟩
  have z1 : Below w.heap.size w w1 := by rw [hw1]; exact (Below.refl _ _).alloc (Nat.le_refl _) _
  have s1 : w1.heap.size = w.heap.size + 1 := by rw [hw1]; simp
  have bp_0 : w1.cell? ⟨w.heap.size, 0, none⟩ = some (.string x.1) := by rw [hw1]; exact box_cell (Below.refl _ _) rfl
  have bp_1 : w1.cell? ⟨w.heap.size, 1, none⟩ = some (.int .i64 x.2.1) := by rw [hw1]; exact box_cell (Below.refl _ _) rfl
  have bp_2 : w1.cell? ⟨w.heap.size, 2, none⟩ = some (.int .i64 x.2.2.1) := by rw [hw1]; exact box_cell (Below.refl _ _) rfl
  have bp_3 : w1.cell? ⟨w.heap.size, 3, none⟩ = some (.slice ub3 un3 uc3) := by rw [hw1]; exact box_cell (Below.refl _ _) rfl
  have hb1 := z1
  by_cases l0 : (x.1.size : Int) ≤ left
  case neg =>
    have HE := Lib.hid (HE0.out.trans (szR_no _ l0))
    go_wp2_with fail
    go_ret
    exact ⟨ret_int HE.out.symm, by first | exact hb1 | (have h9 := hb1; rw [hw1] at h9; exact h9)⟩
  have HE1 := Lib.hid (HE0.out.trans (szR_add l0))
  go_wp2_with fail
  rw [← hw1]
  clear hw1
  refine (sz_Gl _ (x.2.2.2) _ _ (rGl.mono g3 hb1) (by omega) (by omega)).mono ?_
  rintro e w2 ⟨rfl, z2⟩
  have s2 := z2.size
  have hb2 := on hb1 z2
  replace bp_0 := (z2.cell (p := ⟨w.heap.size, 0, none⟩) (by simp only []; omega)).trans bp_0
  replace bp_1 := (z2.cell (p := ⟨w.heap.size, 1, none⟩) (by simp only []; omega)).trans bp_1
  replace bp_2 := (z2.cell (p := ⟨w.heap.size, 2, none⟩) (by simp only []; omega)).trans bp_2
  replace bp_3 := (z2.cell (p := ⟨w.heap.size, 3, none⟩) (by simp only []; omega)).trans bp_3
  obtain ⟨q3, hq3⟩ : ∃ q, q = szR (left - x.1.size) (bulk_Gl (x.2.2.2)) := ⟨_, rfl⟩
  rw [← hq3]
  have hc3 := szR_cases (left - x.1.size) (bulk_Gl (x.2.2.2))
  rw [← hq3] at hc3
  clear hq3
  rcases hc3 with ⟨rfl, l3⟩ | ⟨hq3, l3⟩
  · have HE := Lib.hid (HE1.out.trans (szR_no0 l3))
    clear l3
    go_wp2_with fail
    go_ret
    exact ⟨ret_int HE.out.symm, hb2⟩
  have HE2 := Lib.hid (HE1.out.trans ((szR_yes l3).trans (by rw [hq3])) : szR left (bulk_Ts x) = q3)
  have p3 : 0 ≤ q3 := by omega
  have p3b : q3 ≤ 1048576 := by omega
  clear hq3 l3
  go_wp2_with fail
  go_ret
  exact ⟨ret_int HE2.out.symm, hb2⟩

set_option maxHeartbeats 2000000 in
theorem to_Ts (cs : List Value) (x : DTs) (w : World) (h : rTs.rep w cs x) (hn : bulk_Ts x ≤ 1048576) :
    Calls Try.prog 90 #[.agg cs.toArray] w fun e w' => ∃ us, e = .returned (.agg us.toArray) ∧ Own oTs w.heap.size w'.heap.size w' us x ∧ Below w.heap.size w w' := by
  obtain ⟨ub3, un3, uc3, rfl, g0, g1, g2, g3⟩ := rTs_open h
  clear h
  unfold bulk_Ts at hn
  have hn3 : bulk_Gl (x.2.2.2) ≤ 1048576 := by omega
  clear hn
  go_enter Try.func90, Try.ntmps90
  obtain ⟨W0, hW0⟩ : ∃ W, W = ((w.alloc (.cells #[.string x.1, .int .i64 x.2.1, .int .i64 x.2.2.1, .slice ub3 un3 uc3] 108)).alloc (.cells #[.string ⟨#[]⟩, .int .i64 0, .int .i64 0, .slice none 0 0] 101)).alloc (.cells #[.string x.1, .int .i64 x.2.1, .int .i64 x.2.2.1, .slice none 0 0] 101) := ⟨_, rfl⟩
  have hB0 : Below w.heap.size w W0 := by rw [hW0]; exact (((Below.refl _ _).alloc (Nat.le_refl _) _).alloc (by simp) _).alloc (by simp <;> omega) _
  have t0 : W0.heap.size = w.heap.size + 1 + 1 + 1 := by rw [hW0]; simp
  have bp_0 : W0.cell? ⟨w.heap.size, 0, none⟩ = some (.string x.1) := by rw [hW0]; simp [go_sem, World.cell?_alloc_past]
  have bp_1 : W0.cell? ⟨w.heap.size, 1, none⟩ = some (.int .i64 x.2.1) := by rw [hW0]; simp [go_sem, World.cell?_alloc_past]
  have bp_2 : W0.cell? ⟨w.heap.size, 2, none⟩ = some (.int .i64 x.2.2.1) := by rw [hW0]; simp [go_sem, World.cell?_alloc_past]
  have bp_3 : W0.cell? ⟨w.heap.size, 3, none⟩ = some (.slice ub3 un3 uc3) := by rw [hW0]; simp [go_sem, World.cell?_alloc_past]
  have br_0 : W0.cell? ⟨w.heap.size + 1, 0, none⟩ = some (.string ⟨#[]⟩) := by rw [hW0]; simp [go_sem, World.cell?_alloc_past]
  have fr_0 : W0.frozen? ⟨w.heap.size + 1, 0, none⟩ = false := by rw [hW0]; simp [go_sem, World.frozen?_alloc_past]
  have br_1 : W0.cell? ⟨w.heap.size + 1, 1, none⟩ = some (.int .i64 0) := by rw [hW0]; simp [go_sem, World.cell?_alloc_past]
  have fr_1 : W0.frozen? ⟨w.heap.size + 1, 1, none⟩ = false := by rw [hW0]; simp [go_sem, World.frozen?_alloc_past]
  have br_2 : W0.cell? ⟨w.heap.size + 1, 2, none⟩ = some (.int .i64 0) := by rw [hW0]; simp [go_sem, World.cell?_alloc_past]
  have fr_2 : W0.frozen? ⟨w.heap.size + 1, 2, none⟩ = false := by rw [hW0]; simp [go_sem, World.frozen?_alloc_past]
  have br_3 : W0.cell? ⟨w.heap.size + 1, 3, none⟩ = some (.slice none 0 0) := by rw [hW0]; simp [go_sem, World.cell?_alloc_past]
  have fr_3 : W0.frozen? ⟨w.heap.size + 1, 3, none⟩ = false := by rw [hW0]; simp [go_sem, World.frozen?_alloc_past]
  have bo_0 : W0.cell? ⟨w.heap.size + 1 + 1, 0, none⟩ = some (.string x.1) := by rw [hW0]; simp [go_sem, World.cell?_alloc_past]
  have fo_0 : W0.frozen? ⟨w.heap.size + 1 + 1, 0, none⟩ = false := by rw [hW0]; simp [go_sem, World.frozen?_alloc_past]
  have bo_1 : W0.cell? ⟨w.heap.size + 1 + 1, 1, none⟩ = some (.int .i64 x.2.1) := by rw [hW0]; simp [go_sem, World.cell?_alloc_past]
  have fo_1 : W0.frozen? ⟨w.heap.size + 1 + 1, 1, none⟩ = false := by rw [hW0]; simp [go_sem, World.frozen?_alloc_past]
  have bo_2 : W0.cell? ⟨w.heap.size + 1 + 1, 2, none⟩ = some (.int .i64 x.2.2.1) := by rw [hW0]; simp [go_sem, World.cell?_alloc_past]
  have fo_2 : W0.frozen? ⟨w.heap.size + 1 + 1, 2, none⟩ = false := by rw [hW0]; simp [go_sem, World.frozen?_alloc_past]
  have bo_3 : W0.cell? ⟨w.heap.size + 1 + 1, 3, none⟩ = some (.slice none 0 0) := by rw [hW0]; simp [go_sem, World.cell?_alloc_past]
  have fo_3 : W0.frozen? ⟨w.heap.size + 1 + 1, 3, none⟩ = false := by rw [hW0]; simp [go_sem, World.frozen?_alloc_past]
  go_wp2_with fail
  rw [← hW0]
  clear hW0
  refine (to_Gl _ (x.2.2.2) _ (rGl.mono g3 hB0) hn3).mono ?_
  rintro e w1 ⟨a3, rfl, ho3, z1⟩
  have s1 := z1.size
  obtain ⟨ab3, an3, ac3, rfl⟩ := oGl_form1 ho3
  have q1 := on hB0 z1
  replace bp_0 := (z1.cell (p := ⟨w.heap.size, 0, none⟩) (by simp only []; omega)).trans bp_0
  replace bp_1 := (z1.cell (p := ⟨w.heap.size, 1, none⟩) (by simp only []; omega)).trans bp_1
  replace bp_2 := (z1.cell (p := ⟨w.heap.size, 2, none⟩) (by simp only []; omega)).trans bp_2
  replace bp_3 := (z1.cell (p := ⟨w.heap.size, 3, none⟩) (by simp only []; omega)).trans bp_3
  replace br_0 := (z1.cell (p := ⟨w.heap.size + 1, 0, none⟩) (by simp only []; omega)).trans br_0
  replace fr_0 := (z1.frozen (p := ⟨w.heap.size + 1, 0, none⟩) (by simp only []; omega)).trans fr_0
  replace br_1 := (z1.cell (p := ⟨w.heap.size + 1, 1, none⟩) (by simp only []; omega)).trans br_1
  replace fr_1 := (z1.frozen (p := ⟨w.heap.size + 1, 1, none⟩) (by simp only []; omega)).trans fr_1
  replace br_2 := (z1.cell (p := ⟨w.heap.size + 1, 2, none⟩) (by simp only []; omega)).trans br_2
  replace fr_2 := (z1.frozen (p := ⟨w.heap.size + 1, 2, none⟩) (by simp only []; omega)).trans fr_2
  replace br_3 := (z1.cell (p := ⟨w.heap.size + 1, 3, none⟩) (by simp only []; omega)).trans br_3
  replace fr_3 := (z1.frozen (p := ⟨w.heap.size + 1, 3, none⟩) (by simp only []; omega)).trans fr_3
  replace bo_0 := (z1.cell (p := ⟨w.heap.size + 1 + 1, 0, none⟩) (by simp only []; omega)).trans bo_0
  replace fo_0 := (z1.frozen (p := ⟨w.heap.size + 1 + 1, 0, none⟩) (by simp only []; omega)).trans fo_0
  replace bo_1 := (z1.cell (p := ⟨w.heap.size + 1 + 1, 1, none⟩) (by simp only []; omega)).trans bo_1
  replace fo_1 := (z1.frozen (p := ⟨w.heap.size + 1 + 1, 1, none⟩) (by simp only []; omega)).trans fo_1
  replace bo_2 := (z1.cell (p := ⟨w.heap.size + 1 + 1, 2, none⟩) (by simp only []; omega)).trans bo_2
  replace fo_2 := (z1.frozen (p := ⟨w.heap.size + 1 + 1, 2, none⟩) (by simp only []; omega)).trans fo_2
  replace bo_3 := (z1.cell (p := ⟨w.heap.size + 1 + 1, 3, none⟩) (by simp only []; omega)).trans bo_3
  replace fo_3 := (z1.frozen (p := ⟨w.heap.size + 1 + 1, 3, none⟩) (by simp only []; omega)).trans fo_3
  go_wp2_with fail
  refine bodyPost_ret (v := .agg #[.string x.1, .int .i64 x.2.1, .int .i64 x.2.2.1, .slice ab3 an3 ac3]) (by simp [results, Try.results90, go_sem, br_0, br_1, br_2, br_3, bo_0, bo_1, bo_2, bo_3, fr_0, fr_1, fr_2, fr_3, fo_0, fo_1, fo_2, fo_3]) rfl ⟨_, rfl, ?_, ?_⟩
  · skip
    have hS3 : ∀ (W : World) (p : Addr) (u : Value), p.block < w.heap.size + 1 + 1 + 1 → Own oGl W0.heap.size w1.heap.size W [.slice ab3 an3 ac3] (x.2.2.2) → Own oGl W0.heap.size w1.heap.size (W.setCell p u) [.slice ab3 an3 ac3] (x.2.2.2) := fun W p u hp k9 => k9.setOut rfl (by omega)
    exact oTs_mk g0 g1 g2 (hS3 _ _ _ (by simp <;> omega) (hS3 _ _ _ (by simp <;> omega) (hS3 _ _ _ (by simp <;> omega) (hS3 _ _ _ (by simp <;> omega) (hS3 _ _ _ (by simp <;> omega) ho3))))) (by omega) (by simp [World.setCell] <;> omega) 
  · exact (((((q1.setCell (by simp <;> omega) _).setCell (by simp <;> omega) _).setCell (by simp <;> omega) _).setCell (by simp <;> omega) _).setCell (by simp <;> omega) _)

set_option maxHeartbeats 2000000 in
theorem eq_Ts (cs ds : List Value) (x y : DTs) (w : World) (h : rTs.rep w cs x) (h' : rTs.rep w ds y) :
    Calls Try.prog 85 #[.agg cs.toArray, .agg ds.toArray] w fun e w' => e = .returned (.bool (decide (x = y))) ∧ Below w.heap.size w w' := by
  obtain ⟨ub3, un3, uc3, rfl, g0, g1, g2, g3⟩ := rTs_open h
  obtain ⟨vb3, vn3, vc3, rfl, k0, k1, k2, k3⟩ := rTs_open h'
  clear h h'
  have hb1 : Below w.heap.size w ((w.alloc (.cells #[.string x.1, .int .i64 x.2.1, .int .i64 x.2.2.1, .slice ub3 un3 uc3] 101)).alloc (.cells #[.string y.1, .int .i64 y.2.1, .int .i64 y.2.2.1, .slice vb3 vn3 vc3] 101)) := ((Below.refl _ _).alloc (Nat.le_refl _) _).alloc (by simp) _
  go_enter Try.func85, Try.ntmps85
  obtain ⟨w1, hw1⟩ : ∃ W, W = (w.alloc (.cells #[.string x.1, .int .i64 x.2.1, .int .i64 x.2.2.1, .slice ub3 un3 uc3] 101)).alloc (.cells #[.string y.1, .int .i64 y.2.1, .int .i64 y.2.2.1, .slice vb3 vn3 vc3] 101) := ⟨_, rfl⟩
  have s1 : w1.heap.size = w.heap.size + 1 + 1 := by rw [hw1]; simp
  rw [← hw1] at hb1
  have bc_0 : w1.cell? ⟨w.heap.size, 0, none⟩ = some (.string x.1) := by rw [hw1]; simp [go_sem, World.cell?_alloc_past]
  have bd_0 : w1.cell? ⟨w.heap.size + 1, 0, none⟩ = some (.string y.1) := by rw [hw1]; simp [go_sem, World.cell?_alloc_past]
  have bc_1 : w1.cell? ⟨w.heap.size, 1, none⟩ = some (.int .i64 x.2.1) := by rw [hw1]; simp [go_sem, World.cell?_alloc_past]
  have bd_1 : w1.cell? ⟨w.heap.size + 1, 1, none⟩ = some (.int .i64 y.2.1) := by rw [hw1]; simp [go_sem, World.cell?_alloc_past]
  have bc_2 : w1.cell? ⟨w.heap.size, 2, none⟩ = some (.int .i64 x.2.2.1) := by rw [hw1]; simp [go_sem, World.cell?_alloc_past]
  have bd_2 : w1.cell? ⟨w.heap.size + 1, 2, none⟩ = some (.int .i64 y.2.2.1) := by rw [hw1]; simp [go_sem, World.cell?_alloc_past]
  have bc_3 : w1.cell? ⟨w.heap.size, 3, none⟩ = some (.slice ub3 un3 uc3) := by rw [hw1]; simp [go_sem, World.cell?_alloc_past]
  have bd_3 : w1.cell? ⟨w.heap.size + 1, 3, none⟩ = some (.slice vb3 vn3 vc3) := by rw [hw1]; simp [go_sem, World.cell?_alloc_past]
  by_cases e0 : x.1 = y.1
  case neg =>
    have HE := Lib.hid (show decide (x = y) = false by simp only [decide_eq_false_iff_not]; intro h9; exact e0 (by rw [h9]))
    have hne := bytes_ne e0
    clear e0
    go_wp2_with fail
    go_ret
    exact ⟨ret_bool HE.out.symm, by first | exact hb1 | (rw [hw1] at hb1; exact hb1)⟩
  have E0 := Lib.hid e0
  have hq0 : (x.1.toList == y.1.toList) = true := by rw [e0]; simp
  clear e0
  by_cases e1 : x.2.1 = y.2.1
  case neg =>
    have HE := Lib.hid (show decide (x = y) = false by simp only [decide_eq_false_iff_not]; intro h9; exact e1 (by rw [h9]))
    have hne := bne_iff_ne.2 e1
    clear e1
    go_wp2_with fail
    go_ret
    exact ⟨ret_bool HE.out.symm, by first | exact hb1 | (rw [hw1] at hb1; exact hb1)⟩
  have E1 := Lib.hid e1
  have hq1 : (x.2.1 != y.2.1) = false := by rw [e1]; simp
  clear e1
  by_cases e2 : x.2.2.1 = y.2.2.1
  case neg =>
    have HE := Lib.hid (show decide (x = y) = false by simp only [decide_eq_false_iff_not]; intro h9; exact e2 (by rw [h9]))
    have hne := bne_iff_ne.2 e2
    clear e2
    go_wp2_with fail
    go_ret
    exact ⟨ret_bool HE.out.symm, by first | exact hb1 | (rw [hw1] at hb1; exact hb1)⟩
  have E2 := Lib.hid e2
  have hq2 : (x.2.2.1 != y.2.2.1) = false := by rw [e2]; simp
  clear e2
  go_wp2_with fail
  rw [← hw1]
  clear hw1
  refine (eq_Gl _ _ (x.2.2.2) (y.2.2.2) _ (rGl.mono g3 hb1) (rGl.mono k3 hb1)).mono ?_
  rintro e w2 ⟨rfl, z2⟩
  have s2 := z2.size
  have hb2 := on hb1 z2
  replace bc_0 := (z2.cell (p := ⟨w.heap.size, 0, none⟩) (by simp only []; omega)).trans bc_0
  replace bd_0 := (z2.cell (p := ⟨w.heap.size + 1, 0, none⟩) (by simp only []; omega)).trans bd_0
  replace bc_1 := (z2.cell (p := ⟨w.heap.size, 1, none⟩) (by simp only []; omega)).trans bc_1
  replace bd_1 := (z2.cell (p := ⟨w.heap.size + 1, 1, none⟩) (by simp only []; omega)).trans bd_1
  replace bc_2 := (z2.cell (p := ⟨w.heap.size, 2, none⟩) (by simp only []; omega)).trans bc_2
  replace bd_2 := (z2.cell (p := ⟨w.heap.size + 1, 2, none⟩) (by simp only []; omega)).trans bd_2
  replace bc_3 := (z2.cell (p := ⟨w.heap.size, 3, none⟩) (by simp only []; omega)).trans bc_3
  replace bd_3 := (z2.cell (p := ⟨w.heap.size + 1, 3, none⟩) (by simp only []; omega)).trans bd_3
  by_cases e3 : x.2.2.2 = y.2.2.2
  case neg =>
    have HE := Lib.hid (show decide (x = y) = false by simp only [decide_eq_false_iff_not]; intro h9; exact e3 (by rw [h9]))
    have hne : decide (x.2.2.2 = y.2.2.2) = false := by simpa using e3
    rw [hne]
    clear e3 hne
    go_wp2_with fail
    go_ret
    exact ⟨ret_bool HE.out.symm, hb2⟩
  have E3 := Lib.hid e3
  have hq3 : decide (x.2.2.2 = y.2.2.2) = true := by simpa using e3
  rw [hq3]
  clear e3 hq3
  have HE := Lib.hid (show decide (x = y) = true by simp only [decide_eq_true_eq]; exact Prod.ext E0.out (Prod.ext E1.out (Prod.ext E2.out (E3.out))))
  go_wp2_with fail
  go_ret
  exact ⟨ret_bool HE.out.symm, hb2⟩

end Go.Proofs.Ytbkoddikfpkocaa

/- Marks of slices of statistics. Written by a program. -/
namespace Go.Proofs.Ytbkoddikfpkocaa
open Go.RowKit
set_option linter.unusedVariables false
set_option linter.unusedSimpArgs false
set_option synthInstance.maxSize 2000
set_option synthInstance.maxHeartbeats 400000

def cntE_Gs (x : DGs) : Nat := x.1.length + cntSS x.2.1 + x.2.2.length
def mkE_Gs (k : Int) (x : DGs) : DGs := (marks k x.1.length, mkSS (k + (x.1.length : Int)) x.2.1, marks (k + (x.1.length : Int) + (cntSS x.2.1 : Int)) x.2.2.length)

def cnt_Gl (xs : List DGs) : Nat := sumBy cntE_Gs xs
def mk_Gl (k : Int) (xs : List DGs) : List DGs := mkL mkE_Gs cntE_Gs k xs

set_option maxHeartbeats 2000000 in
theorem markR_Gl (a : Option Addr) (n cap : Nat) (xs : List DGs) (fp : List Nat) (k : Int) (w : World) (h : oGl.rep w [.slice a n cap] xs fp) (hfp : fp.Nodup)
    (k0 : 1 ≤ k) (k1 : k + cnt_Gl xs ≤ 1000000000) (hb : bulk_Gl xs ≤ 100000000) :
    Calls Try.prog 158 #[.slice a n cap, .int .i64 k] w fun e w' => e = .returned (.int .i64 (k + cnt_Gl xs)) ∧ oGl.rep w' [.slice a n cap] (mk_Gl k xs) fp ∧ Alt fp w w' := by
  have hl : xs.length = n := oS_len1 h
  have hsm : n ≤ 100000000 := by unfold bulk_Gl at hb; omega
  have hbs : sumBy bulk_Gs xs ≤ 100000000 := by unfold bulk_Gl at hb; omega
  clear hb
  unfold cnt_Gl at *
  go_enter Try.func158, Try.ntmps158
  go_wp2
  go_loopw [1, 5] (fun q i wr => ∃ j : Nat, j ≤ n ∧ i = .int .i64 j ∧ q = .int .i64 (k + sumBy cntE_Gs (xs.take j)) ∧ Hid (oGl.rep wr [.slice a n cap] (mkLTo mkE_Gs cntE_Gs k xs j) fp) ∧ Alt fp w wr)
    (fun _ i _ => n - (intOf i).toNat)
  case atStart => exact ⟨0, Nat.zero_le _, rfl, by simp [sumBy], Lib.hid (by rw [mkLTo_zero]; exact h), Alt.refl _ _⟩
  case round =>
    obtain ⟨j, hj, rfl, rfl, hown, hk⟩ := hrel
    clear h
    by_cases hlt : j < n
    · obtain ⟨r, hr⟩ : ∃ r, xs[j]? = some r := ⟨_, List.getElem?_eq_getElem (by omega)⟩
      have HLT := Lib.hid (oGl.lt hown.out)
      obtain ⟨g, c, f, pre, post, E, rfl, hgm, hgf, hgl, hrep, hfn, hfs, hpre, hg, hset⟩ := slice_at hown.out hfp (mkLTo_get mkE_Gs cntE_Gs k xs j r hr)
      obtain ⟨c0, d0, p0, q0, rfl, rfl, t0, ⟨c1, d1, p1, q1, rfl, rfl, t1, t2⟩⟩ := hrep
      obtain ⟨a0, n0, rfl⟩ := oS_len t0
      obtain ⟨a1, n1, rfl⟩ := oS_len t1
      obtain ⟨a2, n2, rfl⟩ := oS_len t2
      have hgf0 : g ∉ p0 := fun h9 => hgf (by simp [h9])
      have hgf1 : g ∉ p1 := fun h9 => hgf (by simp [h9])
      have hgf2 : g ∉ q1 := fun h9 => hgf (by simp [h9])
      simp only [List.nodup_append, List.nil_append, List.append_nil] at hfn
      have hn0 : p0.Nodup := by first | exact hfn | exact hfn.1 | exact hfn.2.1 | exact hfn.2.1.1 | exact hfn.2.1.2.1
      have hn1 : p1.Nodup := by first | exact hfn | exact hfn.1 | exact hfn.2.1 | exact hfn.2.1.1 | exact hfn.2.1.2.1
      have hn2 : q1.Nodup := by first | exact hfn | exact hfn.1 | exact hfn.2.1 | exact hfn.2.1.1 | exact hfn.2.1.2.1
      have dj01 : ∀ k, k ∈ p0 → k ∉ p1 := fun k h8 h9 => by first | exact hfn.2.2 k h8 k (by simp [h9]) rfl | exact hfn.2.1.2.2 k h8 k (by simp [h9]) rfl
      have dj02 : ∀ k, k ∈ p0 → k ∉ q1 := fun k h8 h9 => by first | exact hfn.2.2 k h8 k (by simp [h9]) rfl | exact hfn.2.1.2.2 k h8 k (by simp [h9]) rfl
      have dj12 : ∀ k, k ∈ p1 → k ∉ q1 := fun k h8 h9 => by first | exact hfn.2.2 k h8 k (by simp [h9]) rfl | exact hfn.2.1.2.2 k h8 k (by simp [h9]) rfl
      replace hpre : pre.length = j * 3 := hpre
      obtain ⟨q, hq⟩ : ∃ q : Nat, q = sumBy cntE_Gs (xs.take j) := ⟨_, rfl⟩
      have hq2 := sumBy_take cntE_Gs hr
      have hle2 := sumBy_le cntE_Gs hr
      have hcnt : cntE_Gs r = r.1.length + cntSS r.2.1 + r.2.2.length := rfl
      rw [← hq] at hle2 hq2 ⊢
      rw [hcnt] at hle2 hq2
      have HQ := Lib.hid hq
      have HQ2 := Lib.hid hq2
      have HR := Lib.hid hr
      have HS := Lib.hid hset
      have HP := Lib.hid hpre
      have HL := Lib.hid hl
      have HF := Lib.hid hgf
      replace hg : wr.heap[g]? = some (.cells (pre ++ ([Value.slice a0 r.1.length n0, Value.slice a1 r.2.1.length n1, Value.slice a2 r.2.2.length n2] ++ post)).toArray E) := hg
      have hsm1 : r.2.1.length ≤ 100000000 := by have h9 := sumBy_mem bulk_Gs hr; simp only [bulk_Gs, bulk_II] at h9; omega
      have HK := Lib.hid hk
      clear hset hown hl hr hq hq2 hcnt hpre hgf hfn hk
      have A0 := Alt.refl (g :: (p0 ++ (p1 ++ q1))) wr
      have u0_0 : wr.cell? ⟨g, j * 3, none⟩ = some (Value.slice a0 r.1.length n0) := at_cell hg HP.out (j := 0) rfl
      have u0_1 : wr.cell? ⟨g, j * 3 + 1, none⟩ = some (Value.slice a1 r.2.1.length n1) := at_cell hg HP.out (j := 1) rfl
      have u0_2 : wr.cell? ⟨g, j * 3 + 2, none⟩ = some (Value.slice a2 r.2.2.length n2) := at_cell hg HP.out (j := 2) rfl
      have uf0 := fun i => at_frozen hg i
      have uz0_0 := uf0 (j * 3)
      have uz0_1 := uf0 (j * 3 + 1)
      have uz0_2 := uf0 (j * 3 + 2)
      clear uf0
      go_wp2_with fail
      clear u0_0 u0_1 u0_2 uz0_0 uz0_1 uz0_2
      refine (markI a0 r.1.length n0 r.1 p0 _ _ t0 (by omega) (by omega) (by omega)).mono ?_
      rintro e w1 ⟨rfl, t0, z1⟩
      have hg1 := (z1.block g hgf0).trans hg
      have A1 := A0.trans ((Alt.only z1).mono (by simp <;> (intros; simp [*])))
      replace t1 := oII.frame t1 (fun p9 hp9 => z1.block p9 (fun h9 => dj01 p9 h9 hp9))
      replace t2 := oI.frame t2 (fun p9 hp9 => z1.block p9 (fun h9 => dj02 p9 h9 hp9))
      clear z1
      have u1_0 : w1.cell? ⟨g, j * 3, none⟩ = some (Value.slice a0 r.1.length n0) := at_cell hg1 HP.out (j := 0) rfl
      have u1_1 : w1.cell? ⟨g, j * 3 + 1, none⟩ = some (Value.slice a1 r.2.1.length n1) := at_cell hg1 HP.out (j := 1) rfl
      have u1_2 : w1.cell? ⟨g, j * 3 + 2, none⟩ = some (Value.slice a2 r.2.2.length n2) := at_cell hg1 HP.out (j := 2) rfl
      have uf1 := fun i => at_frozen hg1 i
      have uz1_0 := uf1 (j * 3)
      have uz1_1 := uf1 (j * 3 + 1)
      have uz1_2 := uf1 (j * 3 + 2)
      clear uf1
      go_wp2_with fail
      clear u1_0 u1_1 u1_2 uz1_0 uz1_1 uz1_2
      refine (markII a1 r.2.1.length n1 r.2.1 p1 _ _ t1 hn1 (by omega) (by omega) (by omega)).mono ?_
      rintro e w2 ⟨rfl, t1, z2⟩
      have hg2 := (z2.block g hgf1).trans hg1
      have A2 := A1.trans ((Alt.only z2).mono (by simp <;> (intros; simp [*])))
      replace t0 := oI.frame t0 (fun p9 hp9 => z2.block p9 (dj01 p9 hp9))
      replace t2 := oI.frame t2 (fun p9 hp9 => z2.block p9 (fun h9 => dj12 p9 h9 hp9))
      clear z2
      have u2_0 : w2.cell? ⟨g, j * 3, none⟩ = some (Value.slice a0 r.1.length n0) := at_cell hg2 HP.out (j := 0) rfl
      have u2_1 : w2.cell? ⟨g, j * 3 + 1, none⟩ = some (Value.slice a1 r.2.1.length n1) := at_cell hg2 HP.out (j := 1) rfl
      have u2_2 : w2.cell? ⟨g, j * 3 + 2, none⟩ = some (Value.slice a2 r.2.2.length n2) := at_cell hg2 HP.out (j := 2) rfl
      have uf2 := fun i => at_frozen hg2 i
      have uz2_0 := uf2 (j * 3)
      have uz2_1 := uf2 (j * 3 + 1)
      have uz2_2 := uf2 (j * 3 + 2)
      clear uf2
      go_wp2_with fail
      clear u2_0 u2_1 u2_2 uz2_0 uz2_1 uz2_2
      refine (markI a2 r.2.2.length n2 r.2.2 q1 _ _ t2 (by omega) (by omega) (by omega)).mono ?_
      rintro e w3 ⟨rfl, t2, z3⟩
      have hg3 := (z3.block g hgf2).trans hg2
      have A3 := A2.trans ((Alt.only z3).mono (by simp <;> (intros; simp [*])))
      replace t0 := oI.frame t0 (fun p9 hp9 => z3.block p9 (dj02 p9 hp9))
      replace t1 := oII.frame t1 (fun p9 hp9 => z3.block p9 (dj12 p9 hp9))
      clear z3
      have u3_0 : w3.cell? ⟨g, j * 3, none⟩ = some (Value.slice a0 r.1.length n0) := at_cell hg3 HP.out (j := 0) rfl
      have u3_1 : w3.cell? ⟨g, j * 3 + 1, none⟩ = some (Value.slice a1 r.2.1.length n1) := at_cell hg3 HP.out (j := 1) rfl
      have u3_2 : w3.cell? ⟨g, j * 3 + 2, none⟩ = some (Value.slice a2 r.2.2.length n2) := at_cell hg3 HP.out (j := 2) rfl
      have uf3 := fun i => at_frozen hg3 i
      have uz3_0 := uf3 (j * 3)
      have uz3_1 := uf3 (j * 3 + 1)
      have uz3_2 := uf3 (j * 3 + 2)
      clear uf3
      go_wp2_with fail
      have HO : Hid (oGl.rep w3 [.slice (some ⟨g, 0, none⟩) n cap] (mkLTo mkE_Gs cntE_Gs k xs (j + 1)) fp) := by
        have h7 := HS.out w3 (mkE_Gs (k + (q : Int)) r) [Value.slice a0 r.1.length n0, Value.slice a1 r.2.1.length n1, Value.slice a2 r.2.2.length n2] ⟨[Value.slice a0 r.1.length n0], [Value.slice a1 r.2.1.length n1, Value.slice a2 r.2.2.length n2], p0, _, rfl, rfl, t0, ⟨[Value.slice a1 r.2.1.length n1], [Value.slice a2 r.2.2.length n2], p1, _, rfl, rfl, t1, t2⟩⟩ hg3 (fun k h8 h9 h10 => A3.block k (HLT.out k h8) (by simp only [List.mem_cons, not_or]; exact ⟨h9, h10⟩))
        rw [HQ.out, mkLTo_step mkE_Gs cntE_Gs k xs j r HR.out] at h7
        exact h7
      have hk2 := HK.out.trans (A3.mono (fun k h8 => by
        rcases List.mem_cons.1 h8 with h9 | h9
        · exact h9 ▸ hgm
        · exact hfs k h9))
      clear u3_0 u3_1 u3_2 uz3_0 uz3_1 uz3_2
      clear t0 t1 t2
      go_roundw
      case rel => exact ⟨j + 1, by omega, by go_num, by rw [HQ2.out]; go_num, HO, hk2⟩
      case measure => simp [intOf]; omega
    · obtain rfl : j = n := by omega
      have HO := hown.out
      rw [mkLTo_all mkE_Gs cntE_Gs k xs hl] at HO
      have HO' := Lib.hid HO
      have he : (xs.take j) = xs := List.take_of_length_le (by omega)
      rw [he]
      clear HO hown hl he
      go_wp2
      go_ret
      exact ⟨rfl, HO'.out, hk⟩

theorem mark_Gl (u : Value) (xs : List DGs) (k : Int) (lo hi : Nat) (w : World) (h : Own oGl lo hi w [u] xs) (hh : hi ≤ w.heap.size) (k0 : 1 ≤ k) (k1 : k + cnt_Gl xs ≤ 1000000000) (hb : bulk_Gl xs ≤ 100000000) :
    Calls Try.prog 158 #[u, .int .i64 k] w fun e w' => e = .returned (.int .i64 (k + cnt_Gl xs)) ∧ Own oGl lo hi w' [u] (mk_Gl k xs) ∧ Turn lo hi w w' := by
  obtain ⟨fp, h1, h2, h3⟩ := h
  obtain ⟨a, cap, hv⟩ := oS_len h1
  simp at hv
  subst hv
  exact (markR_Gl a _ cap xs fp k w h1 h2 k0 k1 hb).mono fun e w' ⟨he, h4, h5⟩ => ⟨he, ⟨fp, h4, h2, h3⟩, h5.turn h3⟩

theorem cnt_le_Gl (xs : List DGs) : cnt_Gl xs ≤ 2 * bulk_Gl xs :=
  sumBy_two (fun x => by simp only [cntE_Gs, bulk_Gs, bulk_I, bulk_II]; have h1 := cntSS_le x.2.1; omega) xs

end Go.Proofs.Ytbkoddikfpkocaa

/- Marks of slices of slices of ints, as contracts. -/
namespace Go.Proofs.Ytbkoddikfpkocaa
open Go.RowKit
set_option linter.unusedVariables false
set_option linter.unusedSimpArgs false
set_option synthInstance.maxSize 2000
set_option synthInstance.maxHeartbeats 400000

theorem mark_II (u : Value) (xs : List (List Int)) (k : Int) (lo hi : Nat) (w : World) (h : Own oII lo hi w [u] xs) (hh : hi ≤ w.heap.size) (k0 : 0 ≤ k) (k1 : k + cnt_II xs ≤ 1000000000) (hb : bulk_II xs ≤ 100000000) :
    Calls Try.prog 67 #[u, .int .i64 k] w fun e w' => e = .returned (.int .i64 (k + cnt_II xs)) ∧ Own oII lo hi w' [u] (mk_II k xs) ∧ Turn lo hi w w' := by
  obtain ⟨fp, h1, h2, h3⟩ := h
  obtain ⟨a, cap, hv⟩ := oS_len h1
  simp at hv
  subst hv
  unfold cnt_II at *
  unfold mk_II
  refine (markII a _ cap xs fp k w h1 h2 k0 (by omega) (by unfold bulk_II at hb; omega)).mono ?_
  rintro e w' ⟨he, h4, h5⟩
  exact ⟨he, ⟨fp, h4, h2, h3⟩, (h5.kept h3).turn⟩
theorem held_II (u : Value) (xs : List (List Int)) (k : Int) (w : World) (h : rII.rep w [u] (mk_II k xs)) (k0 : 0 ≤ k) (k1 : k + cnt_II xs ≤ 1000000000) (hb : bulk_II xs ≤ 100000000) :
    Calls Try.prog 68 #[u, .int .i64 k] w fun e w' => e = .returned (.int .i64 (k + cnt_II xs)) ∧ w = w' := by
  obtain ⟨b, n, c, hv⟩ := rS_form h
  simp at hv
  subst hv
  have hl := (rS_sl h).len
  unfold mk_II at hl h
  rw [mkSS_len] at hl
  unfold cnt_II at *
  exact heldIntSS_any _ _ _ xs k w (rS_sl h) k0 (by omega) (by unfold bulk_II at hb; omega)

end Go.Proofs.Ytbkoddikfpkocaa

/- Arguments of kind Gl opened. Written by a program. -/
namespace Go.Proofs.Ytbkoddikfpkocaa
open Go.ChangeShapes Go.WideShapes Go.ChangeAt Go.RowKit
set_option linter.unusedVariables false
set_option maxRecDepth 100000

theorem opens_Gl : Opens 106 rGl := opens_slice Try.underlying106 (by kernel_rfl) (by decide) opens_Gs
def kGl_in (w : World) (v : Value) : Prop := ∃ u xs, v = u ∧ rGl.rep w [u] xs
theorem open_kGl_in {H : Type} {enc : TypeId × Value → H} {W : World} {d : DataW H} {ps : List MemPlace} {v : Value} (hv : Value.okWide Try.prog W .any 0 106 v) (h : DataW.Trod enc Try.prog W 0 (fun _ => true) true 106 v d ps) : kGl_in W v := by
  obtain ⟨a, l, c, rfl⟩ := okWide_slice Try.underlying106 hv
  obtain ⟨fuel, hf⟩ := h
  obtain ⟨xs, hx⟩ := opens_Gl H enc W fuel _ _ hf
  exact ⟨_, xs, rfl, by simpa [Value.cells] using hx⟩

end Go.Proofs.Ytbkoddikfpkocaa

/- Rows in memory, as the library's sort takes them: elements of one cell, each with its ints and its blocks. -/
namespace Go.Proofs.Ytbkoddikfpkocaa
open Go.RowKit Go.Sort
set_option linter.unusedVariables false
set_option linter.unusedSimpArgs false

/-- An element of rows in block g: its cell, its ints, its blocks. -/
structure El (w : World) (g : Nat) where
  v : Value
  xs : List Int
  fp : List Nat
  rep : oI.rep w [v] xs fp
  off : g ∉ fp
def El.none (w : World) (g : Nat) : El w g := ⟨.slice .none 0 0, [], [], ⟨_, [], [], rfl, by simp [bl, Value.ownBlock], World.ownsRow_nil _ _ _ _, trivial⟩, by simp⟩
instance (w : World) (g : Nat) : Inhabited (El w g) := ⟨El.none w g⟩
theorem El.one {w : World} {g : Nat} (x : El w g) : x.v.oneCell' = true := by
  obtain ⟨a, cap, h, _⟩ := oI_own x.rep
  simp at h
  rw [h]; rfl
theorem El.form {w : World} {g : Nat} (x : El w g) : ∃ a cap, x.v = .slice a x.xs.length cap := by
  obtain ⟨a, cap, h, _⟩ := oI_own x.rep
  simp at h
  exact ⟨a, cap, h⟩
theorem El.lt {w : World} {g : Nat} (x : El w g) : ∀ k ∈ x.fp, k < w.heap.size := oI.lt x.rep
/-- All blocks of elements. -/
def fps {w : World} {g : Nat} (d : List (El w g)) : List Nat := (d.map El.fp).flatten
/-- Block g's cells begin with these. -/
structure At (g c : Nat) (w' : World) (vs : List Value) : Prop where
  ex : ∃ cur, w'.heap[g]? = some (.cells cur 24 (0, 0)) ∧ cur.size = c ∧ cur.toList.take vs.length = vs
  le : vs.length ≤ c
  cap : c ≤ maxLen
/-- All blocks but g are as they were in w. -/
def But (g : Nat) (w w' : World) : Prop := ∀ k, k ≠ g → k < w.heap.size → w'.heap[k]? = w.heap[k]?
theorem But.refl (g : Nat) (w : World) : But g w w := fun _ _ _ => rfl
theorem But.trans {g : Nat} {a b c : World} (h : But g a b) (k : But g b c) (hs : a.heap.size ≤ b.heap.size) : But g a c := fun i h1 h2 => (k i h1 (by omega)).trans (h i h1 h2)
theorem But.rep {w w' : World} {g : Nat} (h : But g w w') (x : El w g) : oI.rep w' [x.v] x.xs x.fp :=
  oI.frame x.rep fun k hk => h k (fun e => x.off (e ▸ hk)) (x.lt k hk)
theorem At.holds {w w' : World} {g c : Nat} {d : List (El w g)} (h : At g c w' (d.map El.v)) : Holds El.v w' g 0 d.toArray := by
  obtain ⟨cur, hb, hs, ht⟩ := h.ex
  have hle := h.le
  simp only [List.length_map] at ht hle
  intro j hj
  simp only [List.size_toArray] at hj
  have hv : cur[j]? = some ((d[j]'hj).v) := by
    have h1 : (cur.toList.take d.length)[j]? = some ((d[j]'hj).v) := by rw [ht]; simp [hj]
    rw [List.getElem?_take_of_lt hj] at h1
    simpa using h1
  have e : d.toArray[j]! = d[j]'hj := by simp [hj]
  rw [e]
  refine ⟨?_, ?_⟩
  · simp only [World.cell?, hb, Nat.zero_add]
    exact hv
  · simp only [World.frozen?, hb]
    simp
/-- Rows of one's own, opened. -/
theorem rows_open {lo hi g n c : Nat} {w : World} {rows : List (List Int)} (h : Own oII lo hi w [.slice (some ⟨g, 0, .none⟩) n c] rows) :
    ∃ d : List (El w g), d.map El.xs = rows ∧ d.length = n ∧ At g c w (d.map El.v) ∧ g < w.heap.size ∧ (g :: fps d).Nodup ∧ ∀ k ∈ g :: fps d, lo ≤ k ∧ k < hi := by
  obtain ⟨fp, ⟨v, css, fs, hv, rfl, h1, h2⟩, hn, hb⟩ := h
  simp only [List.cons.injEq, and_true] at hv
  subst hv
  have hbl : bl (.slice (some ⟨g, 0, .none⟩) n c) = [g] := rfl
  rw [hbl] at hn hb
  have hgs := h1.lt g rfl
  obtain ⟨hlen, hor⟩ := h1
  rcases hor with ⟨h9, _⟩ | ⟨g', cap, cur, hv', _, hg, hnc, hcm, hcs, htk⟩
  · simp at h9
  simp at hv'
  obtain ⟨rfl, rfl, rfl⟩ := hv'
  have key : ∀ (css : List (List Value)) (xs : List (List Int)) (fs : List (List Nat)), oI.rows w css xs fs → g ∉ fs.flatten →
      ∃ d : List (El w g), d.map El.xs = xs ∧ d.map El.fp = fs ∧ d.map El.v = css.flatten := by
    intro css
    induction css with
    | nil =>
      intro xs fs h _
      match xs, fs, h with
      | [], [], _ => exact ⟨[], rfl, rfl, rfl⟩
    | cons c cs ih =>
      intro xs fs h hg
      match xs, fs, h with
      | x :: xs, f :: fs, h =>
        simp only [List.flatten_cons, List.mem_append, not_or] at hg
        obtain ⟨d, h1, h2, h3⟩ := ih xs fs h.2 hg.2
        obtain ⟨a, cap, rfl, _⟩ := oI_own h.1
        exact ⟨⟨_, x, f, h.1, hg.1⟩ :: d, by simp [h1], by simp [h2], by simp [h3]⟩
  obtain ⟨d, h1', h2', h3'⟩ := key css rows fs h2 (fun hm => (List.nodup_append.1 hn).2.2 g (by simp) g hm rfl)
  have hdl : d.length = rows.length := by rw [← h1']; simp
  refine ⟨d, h1', hdl, ⟨⟨cur, hg, by simpa [oI, O.slice] using hcs, ?_⟩, by simp [hdl]; exact hnc, hcm⟩, hgs.2, by unfold fps; rw [h2']; simpa using hn, by unfold fps; rw [h2']; simpa using hb⟩
  rw [h3'] 
  have e : css.flatten.length = rows.length * 1 := by simpa [oI, O.slice] using hlen
  rw [e]
  simpa [oI, O.slice] using htk
/-- Rows of one's own, closed. -/
theorem rows_close {lo hi g c : Nat} {w w' : World} {d : List (El w g)} (ha : At g c w' (d.map El.v)) (hb : But g w w') (hn : (g :: fps d).Nodup) (hr : ∀ k ∈ g :: fps d, lo ≤ k ∧ k < hi) :
    Own oII lo hi w' [.slice (some ⟨g, 0, .none⟩) d.length c] (d.map El.xs) := by
  refine ⟨g :: fps d, ⟨_, d.map fun x => [x.v], d.map El.fp, rfl, rfl, ?_, ?_⟩, hn, hr⟩
  · obtain ⟨cur, h1, h2, h3⟩ := ha.ex
    have hle := ha.le
    simp only [List.length_map] at h3 hle
    have e : (d.map fun x => [x.v]).flatten = d.map El.v := by
      clear h3 ha hn hr hle
      induction d with
      | nil => rfl
      | cons x t ih => simp [ih]
    rw [e]
    refine ⟨by simp [oI, O.slice], .inr ⟨g, c, cur, by simp, Nat.zero_le _, h1, by simpa using hle, ha.cap, by simpa [oI, O.slice] using h2, by simpa [oI, O.slice] using h3⟩⟩
  · clear ha hn hr
    induction d with
    | nil => trivial
    | cons x t ih => exact ⟨hb.rep x, ih⟩
/-- The row laid anew. -/
theorem At.put {w w1 : World} {g c : Nat} {d d' : List (El w g)} (h : At g c w1 (d.map El.v)) (hl : d'.length = d.length) : At g c (putRow El.v w1 g 0 d'.toArray) (d'.map El.v) := by
  obtain ⟨cur, hb, hs, ht⟩ := h.ex
  have hle := h.le
  simp only [List.length_map] at ht hle
  refine ⟨⟨putCells El.v 0 d'.toArray cur, ?_, by simp [putCells, hs], ?_⟩, by simp; omega, h.cap⟩
  · simp only [putRow, mapBlock, Array.getElem?_modify, if_true, hb, Option.map_some, onCells]
  · apply List.ext_getElem?
    intro j
    by_cases hj : j < d'.length
    · have hjc : j < cur.size := by omega
      rw [List.length_map, List.getElem?_take_of_lt hj]
      simp [putCells, Array.getElem?_mapIdx, hj, hjc]
    · rw [List.getElem?_eq_none (by simp; omega), List.getElem?_eq_none (by simp; omega)]
theorem But.put {w w1 : World} {g : Nat} {d' : List (El w g)} (h : But g w w1) : But g w (putRow El.v w1 g 0 d'.toArray) := fun k hk hs => by
  rw [← h k hk hs]
  simp only [putRow, mapBlock, Array.getElem?_modify]
  rw [if_neg (Ne.symm hk)]
theorem At.grow {g c : Nat} {w1 : World} {vs : List Value} (h : At g c w1 vs) (hg : g < w1.heap.size) (os : Array Obj) : At g c (grow w1 os) vs := by
  obtain ⟨cur, hb, hs, ht⟩ := h.ex
  exact ⟨⟨cur, by rw [heap_grow_old w1 os hg]; exact hb, hs, ht⟩, h.le, h.cap⟩
theorem But.grow {g : Nat} {w w1 : World} (h : But g w w1) (hs : w.heap.size ≤ w1.heap.size) (os : Array Obj) : But g w (grow w1 os) := fun k hk h2 => by
  rw [heap_grow_old w1 os (by omega)]; exact h k hk h2
theorem At.sort {w : World} {g c n : Nat} {d : List (El w g)} {d' : List (El w g)} (os : Array Obj) (h : At g c w (d.map El.v)) (hg : g < w.heap.size) (hl : d'.length = d.length) :
    At g c (Go.Proofs.sortWorld El.v w g 0 n d'.toArray os) (d'.map El.v) ∧ But g w (Go.Proofs.sortWorld El.v w g 0 n d'.toArray os) := by
  have h1 : At g c (Go.Sort.ahead w n) (d.map El.v) := ⟨h.ex, h.le, h.cap⟩
  exact ⟨(h1.put hl).grow (by rw [size_putRow]; exact hg) os, (But.put (w1 := Go.Sort.ahead w n) (But.refl g w)).grow (by rw [size_putRow]; exact Nat.le_refl _) os⟩
theorem fps_perm {w : World} {g : Nat} {d d' : List (El w g)} (h : d'.Perm d) : (fps d').Perm (fps d) := (h.map _).flatten
theorem fps_sub {w : World} {g : Nat} {d d' : List (El w g)} (h : d'.Sublist d) : (fps d').Sublist (fps d) := by
  induction h with
  | slnil => exact List.Sublist.refl _
  | cons x _ ih => exact ih.trans (List.sublist_append_right x.fp _)
  | cons_cons x _ ih => exact (List.Sublist.refl x.fp).append ih
/-- Sorted in the order of their ints. -/
def cfE {w : World} {g : Nat} (x y : El w g) : Int := cmpRows x.xs y.xs
theorem swoE (w : World) (g : Nat) : SWO (Go.Proofs.ltOf (cfE (w := w) (g := g))) where
  irrefl x := by simp [Go.Proofs.ltOf, cfE, cmpRows_self]
  trans x y z h1 h2 := decide_eq_true (cmpRows_lt_trans (of_decide_eq_true h1) (of_decide_eq_true h2))
  ntrans x y z h1 h2 := by
    refine decide_eq_false fun h3 => ?_
    have h1' := of_decide_eq_false h1
    have h2' := of_decide_eq_false h2
    simp only [cfE] at h1' h2' h3
    rcases Int.lt_trichotomy (cmpRows x.xs y.xs) 0 with h | h | h
    · exact h1' h
    · have := (cmpRows_zero _ _).1 h
      rw [this] at h3; exact h2' h3
    · have hyx := cmpRows_gt_iff.1 h
      exact h2' (cmpRows_lt_trans hyx h3)
theorem sorted_pair {w : World} {g : Nat} {d' : Array (El w g)} (h : SortedIn (Go.Proofs.ltOf cfE) 0 d'.size d') : (d'.toList.map El.xs).Pairwise (fun a b => ¬ cmpRows b a < 0) := by
  rw [List.pairwise_map, List.pairwise_iff_getElem]
  intro i j hi hj hij
  simp only [Array.length_toList] at hi hj
  have h1 := h i j (Nat.zero_le _) hij hj
  rw [getElem!_pos d' i hi, getElem!_pos d' j hj] at h1
  exact of_decide_eq_false h1
theorem permIn_all {w : World} {g : Nat} {d : List (El w g)} {d' : Array (El w g)} (h : PermIn 0 d.toArray.size d.toArray d') : d'.toList.Perm d ∧ d'.size = d.length := by
  obtain ⟨h1, _, h3⟩ := h
  simp only [List.size_toArray] at h1 h3
  refine ⟨?_, h1⟩
  have e1 : d'.extract 0 d.length = d' := by rw [← h1]; exact Array.extract_size
  have e2 : (d.toArray.extract 0 d.length).toList = d := by simp
  rw [e1, e2] at h3
  exact h3

end Go.Proofs.Ytbkoddikfpkocaa

/- Contracts: columns selected from a row. -/
namespace Go.Proofs.Ytbkoddikfpkocaa
open Go.RowKit
set_option linter.unusedVariables false
set_option linter.unusedSimpArgs false
set_option synthInstance.maxSize 2000
set_option synthInstance.maxHeartbeats 400000

/-- Whether columns are columns of a row. -/
def selOk (row cols : List Int) : Bool := cols.all (fun c => betw c 0 ((row.length : Int) - 1))
/-- The values of a row at columns. -/
def selAt (row cols : List Int) : List Int := cols.map (fun c => row.getD c.toNat 0)
def sel (row cols : List Int) : List Int := if selOk row cols then selAt row cols else []
theorem selAt_len (row cols : List Int) : (selAt row cols).length = cols.length := by simp [selAt]
theorem sel_len (row cols : List Int) : (sel row cols).length ≤ cols.length := by
  unfold sel; split <;> simp [selAt]
theorem selAt_step {row cols : List Int} {j : Nat} {c : Nat} {x : Int} (hj : j < cols.length) (hc : cols.getD j 0 = (c : Int)) (hx : row.getD c 0 = x) : selAt row (cols.take (j + 1)) = selAt row (cols.take j) ++ [x] := by
  rw [take_snoc cols j hj, hc]; simp only [selAt, List.map_append, List.map_cons, List.map_nil, Int.toNat_natCast, hx]
theorem selOk_no {row cols : List Int} {j : Nat} {x : Int} (hj : j < cols.length) (hc : cols.getD j 0 = x) (hb : betw x 0 ((row.length : Int) - 1) = false) : selOk row cols = false := by
  rw [selOk, List.all_eq_false]
  refine ⟨x, ?_, by rw [hb]; simp⟩
  rw [← hc, List.getD_eq_getElem?_getD, List.getElem?_eq_getElem hj]
  exact List.getElem_mem hj
theorem selOk_at {row cols : List Int} {j : Nat} {x : Int} (hj : j < cols.length) (hc : cols.getD j 0 = x) : selOk row (cols.drop j) = (betw x 0 ((row.length : Int) - 1) && selOk row (cols.drop (j + 1))) := by
  rw [drop_cons cols j hj, hc]; rfl
theorem selOk_end {row cols : List Int} {j : Nat} (hj : cols.length ≤ j) : selOk row (cols.drop j) = true := by
  rw [List.drop_eq_nil_of_le hj]; rfl
theorem I64.nat {x : Int} (h : betw x 0 9223372036854775806 = true) : ∃ c : Nat, x = (c : Int) := by
  refine ⟨x.toNat, ?_⟩
  simp only [betw, Bool.and_eq_true, decide_eq_true_eq] at h; omega
theorem betw_nat {x m : Int} (h : betw x 0 m = true) : ∃ c : Nat, x = (c : Int) ∧ (c : Int) ≤ m := by
  simp only [betw, Bool.and_eq_true, decide_eq_true_eq] at h
  exact ⟨x.toNat, by omega, by omega⟩

set_option maxHeartbeats 2000000 in
theorem sel_impl (a b : Option Addr) (n m cap cap' : Nat) (row cols : List Int) (w : World) (h : Ints w a n row) (h' : Ints w b m cols) (hm : m ≤ 1048576) :
    Calls Try.prog 139 #[.slice a n cap, .slice b m cap'] w fun e w' => ∃ vb vn vc, e = .returned (.tuple #[.slice vb vn vc, .bool (selOk row cols)]) ∧ Own oI w.heap.size w'.heap.size w' [.slice vb vn vc] (sel row cols) ∧ Below w.heap.size w w' := by
  have hl := h.len
  have hl' := h'.len
  have hn := h.small
  have hn' := h'.small
  have HV : Hid (selOk row cols = selOk row (cols.drop 0)) := Lib.hid (by simp)
  have hwn : IntKind.i64.wrap ((n : Int) - 1) = (n : Int) - 1 := IntWalk.i64_in _ (by omega)
  have hb0 : Below w.heap.size w w := Below.refl _ _
  go_enter Try.func139, Try.ntmps139
  obtain ⟨w1, hw1⟩ : ∃ W, W = w.alloc (.cells #[] 3) := ⟨_, rfl⟩
  have z1 : Below w.heap.size w w1 := by rw [hw1]; exact (Below.refl _ _).alloc (Nat.le_refl _) _
  have s1 : w1.heap.size = w.heap.size + 1 := by rw [hw1]; simp
  have hb1 := on hb0 z1
  have ho : ∀ S, Acc 3 O.int w.heap.size S w1.heap.size w1 (.slice (some ⟨w.heap.size, 0, none⟩) 0 0) [] := fun S => by rw [hw1]; exact Acc.empty (by omega) (by first | (simp; done) | (simp; omega))
  go_wp2_with fail
  rw [← hw1]
  clear hw1
  go_loopw [6, 12] (fun v i wr => ∃ j : Nat, j ≤ m ∧ i = .int .i64 j ∧ Hid (selOk row cols = selOk row (cols.drop j)) ∧ Acc 3 O.int w.heap.size w1.heap.size wr.heap.size wr v (selAt row (cols.take j)) ∧ Turn w.heap.size (w.heap.size + 1) w1 wr) (fun _ i _ => m - (intOf i).toNat)
  case atStart => exact ⟨0, Nat.zero_le _, rfl, HV.out, by rw [List.take_zero]; exact (ho _).wide (Nat.le_refl _) (by omega), turn_refl _ _ _⟩
  case round =>
    obtain ⟨j, hj, rfl, hE, hacc, hdr⟩ := hrel
    have hlc := hdr
    have s2 := hdr.size
    have hb2 := hb1.trans ((hdr.below (by omega)).mono (by omega))
    have hbl : (selAt row (cols.take j)).length ≤ 1048576 := by rw [selAt_len]; have h2 : (cols.take j).length ≤ j := List.length_take_le _ _; omega
    by_cases hlt : j < m
    · obtain ⟨b1, o1, x, rfl, hc, hx, _, _⟩ := h'.get hlt
      have c0_lt : b1 < w.heap.size := cell_lt hc
      have c0 : wr.cell? ⟨b1, o1 + j, none⟩ = some (.int .i64 x) := (hb2.cell (p := ⟨b1, o1 + j, none⟩) c0_lt).trans hc
      have hcall := fun W => within_any x 0 ((n : Int) - 1) W
      by_cases hb : betw x 0 ((n : Int) - 1) = true
      case neg =>
        replace hb : betw x 0 ((n : Int) - 1) = false := by simpa using hb
        have HE := Lib.hid (selOk_no (row := row) (by omega) hx.out (by rw [hl]; exact hb))
        rw [hb] at hcall
        have HC := Lib.hid hcall
        have HS := Lib.hid (show sel row cols = [] by simp [sel, HE.out])
        clear h h' hb hcall hE HV hl hl' ho hx hc hacc
        go_wp2_with fail
        refine (HC.out _).mono ?_
        rintro e w' ⟨rfl, rfl⟩
        go_wp2_with fail
        refine bodyPost_ret (v := .tuple #[.slice none 0 0, .bool false]) (by simp [results, Try.results139, go_sem]) rfl ⟨_, _, _, by rw [HE.out], by rw [HS.out]; exact own_nil_S.mono (Nat.le_refl _) (by omega), hb2⟩
      obtain ⟨c, rfl, hcn⟩ := betw_nat hb
      rw [hb] at hcall
      have HC := Lib.hid hcall
      obtain ⟨b2, o2, y, rfl, hcy, hy, hy1, hy2⟩ := h.get (show c < n by omega)
      have cy_lt : b2 < w.heap.size := cell_lt hcy
      have cy : wr.cell? ⟨b2, o2 + c, none⟩ = some (.int .i64 y) := (hb2.cell (p := ⟨b2, o2 + c, none⟩) cy_lt).trans hcy
      have HB := Lib.hid (selAt_step (show j < cols.length by omega) hx.out hy.out)
      have HE : Hid (selOk row cols = selOk row (cols.drop (j + 1))) := Lib.hid (by rw [hE.out, selOk_at (by omega) hx.out, hl, hb]; rfl)
      clear h h' hb hcall hE HV hl hl' ho hx hc hy hcy
      go_wp2_with (first
        | (go_at_call 99; refine (HC.out _).mono ?_; rintro e w' ⟨rfl, rfl⟩)
        | (at_builtin; refine wpList_accI _ _ _ _ _ hacc hlc rfl (by omega) (Nat.le_refl _) ⟨by omega, by omega⟩ (by omega) rfl rfl rfl rfl rfl ?_; intro v' w1 hacc' ht' hsz'))
      rw [← HB.out] at hacc'
      go_roundw
      case rel => exact ⟨j + 1, by omega, by go_num, HE.out, hacc', ht'⟩
      case measure => simp [intOf]; omega
    · obtain rfl : j = m := by omega
      have HE : Hid (selOk row cols = true) := Lib.hid (by rw [hE.out, selOk_end (by omega)])
      have HS := Lib.hid (show sel row cols = selAt row cols by simp [sel, HE.out])
      rw [List.take_of_length_le (by omega), ← HS.out] at hacc
      obtain ⟨a', n', cap2, rfl⟩ := hacc.form3
      have HO := Lib.hid (hacc.own (B := w.heap.size) (by omega) (by omega) (Nat.le_refl _))
      clear hacc h h' hl hl' ho hE HV
      go_wp2_with fail
      refine bodyPost_ret (v := .tuple #[.slice a' n' cap2, .bool true]) (by simp [results, Try.results139, go_sem]) rfl ⟨_, _, _, by rw [HE.out], HO.out, hb2⟩

set_option maxHeartbeats 2000000 in
theorem sel_spec (a b : Option Addr) (n m cap cap' : Nat) (row cols : List Int) (w : World) (h : Ints w a n row) (h' : Ints w b m cols) (hm : m ≤ 1048576) :
    Calls Try.prog 134 #[.slice a n cap, .slice b m cap'] w fun e w' => ∃ vb vn vc, e = .returned (.tuple #[.slice vb vn vc, .bool (selOk row cols)]) ∧ Own oI w.heap.size w'.heap.size w' [.slice vb vn vc] (sel row cols) ∧ Below w.heap.size w w' := by
  have hl := h.len
  have hl' := h'.len
  have hn := h.small
  have hn' := h'.small
  have HV : Hid (selOk row cols = selOk row (cols.drop 0)) := Lib.hid (by simp)
  have hwn : IntKind.i64.wrap ((n : Int) - 1) = (n : Int) - 1 := IntWalk.i64_in _ (by omega)
  have hb0 : Below w.heap.size w w := Below.refl _ _
  go_enter Try.func134, Try.ntmps134
  obtain ⟨w1, hw1⟩ : ∃ W, W = w.alloc (.cells #[] 3) := ⟨_, rfl⟩
  have z1 : Below w.heap.size w w1 := by rw [hw1]; exact (Below.refl _ _).alloc (Nat.le_refl _) _
  have s1 : w1.heap.size = w.heap.size + 1 := by rw [hw1]; simp
  have hb1 := on hb0 z1
  have ho : ∀ S, Acc 3 O.int w.heap.size S w1.heap.size w1 (.slice (some ⟨w.heap.size, 0, none⟩) 0 0) [] := fun S => by rw [hw1]; exact Acc.empty (by omega) (by first | (simp; done) | (simp; omega))
  go_wp2_with fail
  rw [← hw1]
  clear hw1
  go_loopw [6, 7] (fun v i wr => ∃ j : Nat, j ≤ m ∧ i = .int .i64 j ∧ Hid (selOk row cols = selOk row (cols.drop j)) ∧ Acc 3 O.int w.heap.size w1.heap.size wr.heap.size wr v (selAt row (cols.take j)) ∧ Turn w.heap.size (w.heap.size + 1) w1 wr) (fun _ i _ => m - (intOf i).toNat)
  case atStart => exact ⟨0, Nat.zero_le _, rfl, HV.out, by rw [List.take_zero]; exact (ho _).wide (Nat.le_refl _) (by omega), turn_refl _ _ _⟩
  case round =>
    obtain ⟨j, hj, rfl, hE, hacc, hdr⟩ := hrel
    have hlc := hdr
    have s2 := hdr.size
    have hb2 := hb1.trans ((hdr.below (by omega)).mono (by omega))
    have hbl : (selAt row (cols.take j)).length ≤ 1048576 := by rw [selAt_len]; have h2 : (cols.take j).length ≤ j := List.length_take_le _ _; omega
    by_cases hlt : j < m
    · obtain ⟨b1, o1, x, rfl, hc, hx, _, _⟩ := h'.get hlt
      have c0_lt : b1 < w.heap.size := cell_lt hc
      have c0 : wr.cell? ⟨b1, o1 + j, none⟩ = some (.int .i64 x) := (hb2.cell (p := ⟨b1, o1 + j, none⟩) c0_lt).trans hc
      have hcall := fun W => l1In_any x 0 ((n : Int) - 1) W
      by_cases hb : betw x 0 ((n : Int) - 1) = true
      case neg =>
        replace hb : betw x 0 ((n : Int) - 1) = false := by simpa using hb
        have HE := Lib.hid (selOk_no (row := row) (by omega) hx.out (by rw [hl]; exact hb))
        rw [hb] at hcall
        have HC := Lib.hid hcall
        have HS := Lib.hid (show sel row cols = [] by simp [sel, HE.out])
        clear h h' hb hcall hE HV hl hl' ho hx hc hacc
        go_wp2_with fail
        refine (HC.out _).mono ?_
        rintro e w' ⟨rfl, rfl⟩
        go_wp2_with fail
        refine bodyPost_ret (v := .tuple #[.slice (some ⟨wr.heap.size, 0, none⟩) 0 0, .bool false]) (by simp [results, Try.results134, go_sem]) rfl ⟨_, _, _, by rw [HE.out], by rw [HS.out]; exact ((Acc.empty (E := 3) (o := O.int) (S := w.heap.size) (g := wr.heap.size) (hi := wr.heap.size + 1) rfl (by omega)).own (by omega) (Nat.le_refl _) (by simp)), hb2.trans ((Below.refl _ _).alloc (by omega) _)⟩
      obtain ⟨c, rfl, hcn⟩ := betw_nat hb
      rw [hb] at hcall
      have HC := Lib.hid hcall
      obtain ⟨b2, o2, y, rfl, hcy, hy, hy1, hy2⟩ := h.get (show c < n by omega)
      have cy_lt : b2 < w.heap.size := cell_lt hcy
      have cy : wr.cell? ⟨b2, o2 + c, none⟩ = some (.int .i64 y) := (hb2.cell (p := ⟨b2, o2 + c, none⟩) cy_lt).trans hcy
      have HB := Lib.hid (selAt_step (show j < cols.length by omega) hx.out hy.out)
      have HE : Hid (selOk row cols = selOk row (cols.drop (j + 1))) := Lib.hid (by rw [hE.out, selOk_at (by omega) hx.out, hl, hb]; rfl)
      clear h h' hb hcall hE HV hl hl' ho hx hc hy hcy
      go_wp2_with (first
        | (go_at_call 98; refine (HC.out _).mono ?_; rintro e w' ⟨rfl, rfl⟩)
        | (at_builtin; refine wpList_accI _ _ _ _ _ hacc hlc rfl (by omega) (Nat.le_refl _) ⟨by omega, by omega⟩ (by omega) rfl rfl rfl rfl rfl ?_; intro v' w1 hacc' ht' hsz'))
      rw [← HB.out] at hacc'
      go_roundw
      case rel => exact ⟨j + 1, by omega, by go_num, HE.out, hacc', ht'⟩
      case measure => simp [intOf]; omega
    · obtain rfl : j = m := by omega
      have HE : Hid (selOk row cols = true) := Lib.hid (by rw [hE.out, selOk_end (by omega)])
      have HS := Lib.hid (show sel row cols = selAt row cols by simp [sel, HE.out])
      rw [List.take_of_length_le (by omega), ← HS.out] at hacc
      obtain ⟨a', n', cap2, rfl⟩ := hacc.form3
      have HO := Lib.hid (hacc.own (B := w.heap.size) (by omega) (by omega) (Nat.le_refl _))
      clear hacc h h' hl hl' ho hE HV
      go_wp2_with fail
      refine bodyPost_ret (v := .tuple #[.slice a' n' cap2, .bool true]) (by simp [results, Try.results134, go_sem]) rfl ⟨_, _, _, by rw [HE.out], HO.out, hb2⟩


end Go.Proofs.Ytbkoddikfpkocaa

/- Contracts: rows compacted by the library (slices.CompactFunc); rows sorted, each once (impl.sorted). -/
namespace Go.Proofs.Ytbkoddikfpkocaa
open Go.RowKit Go.Sort
set_option linter.unusedVariables false
set_option linter.unusedSimpArgs false
set_option synthInstance.maxSize 2000
set_option synthInstance.maxHeartbeats 400000

theorem At.cell {g c j : Nat} {W : World} {vs : List Value} {u : Value} (h : At g c W vs) (hj : vs[j]? = some u) : W.cell? ⟨g, j, none⟩ = some u ∧ W.frozen? ⟨g, j, none⟩ = false := by
  obtain ⟨cur, hb, hs, ht⟩ := h.ex
  have hjl := (List.getElem?_eq_some_iff.1 hj).1
  have h1 : (cur.toList.take vs.length)[j]? = some u := by rw [ht]; exact hj
  rw [List.getElem?_take_of_lt hjl] at h1
  refine ⟨?_, ?_⟩
  · simp only [World.cell?, hb]; simpa using h1
  · simp only [World.frozen?, hb]; simp
theorem At.drew {g c : Nat} {W W' : World} {vs : List Value} (h : At g c W vs) (hd : Drew W W') : At g c W' vs := by
  obtain ⟨m, rfl⟩ := hd
  exact ⟨h.ex, h.le, h.cap⟩
theorem At.set {g c k : Nat} {W : World} {vs : List Value} (h : At g c W vs) (u : Value) : At g c (W.setCell ⟨g, k, none⟩ u) (vs.set k u) := by
  obtain ⟨cur, hb, hs, ht⟩ := h.ex
  refine ⟨⟨cur.setIfInBounds k u, ?_, by simp [hs], ?_⟩, by simpa using h.le, h.cap⟩
  · rw [setCell_eq]
    simp only [mapBlock, Array.getElem?_modify, if_true, hb, Option.map_some, onCells]
  · rw [List.length_set, Array.toList_setIfInBounds, List.take_set, ht]
theorem But.set {g k : Nat} {w W : World} (h : But g w W) (u : Value) : But g w (W.setCell ⟨g, k, none⟩ u) := fun i h1 h2 => by
  rw [← h i h1 h2]; exact Below.heap_setCell _ _ _ _ h1
theorem At.pre {g c : Nat} {W : World} {us vs : List Value} (h : At g c W (us ++ vs)) : At g c W us := by
  obtain ⟨cur, hb, hs, ht⟩ := h.ex
  have hle := h.le
  rw [List.length_append] at hle
  refine ⟨⟨cur, hb, hs, ?_⟩, by omega, h.cap⟩
  have h1 := congrArg (List.take us.length) ht
  rw [List.take_take, List.length_append, Nat.min_eq_left (by omega), List.take_left' rfl] at h1
  exact h1
theorem eqFn_any (a b : Option Addr) (n m cap cap' : Nat) (xs ys : List Int) (w : World) (h : Ints w a n xs) (h' : Ints w b m ys) :
    Calls Try.prog 191 #[.slice a n cap, .slice b m cap'] w fun e w' => e = .returned (.bool (decide (xs = ys))) ∧ Drew w w' := by
  have HC := Lib.hid (equalInts a b n m cap cap' xs ys w h h')
  clear h h'
  go_enter Try.func191, Try.ntmps191
  go_wp2_with (go_at_call 141; refine HC.out.mono ?_; rintro e w9 ⟨rfl, hd⟩)
  go_ret
  exact ⟨rfl, hd⟩
theorem El.ints {w W : World} {g : Nat} (x : El w g) (hb : But g w W) : ∃ a cap, x.v = .slice a x.xs.length cap ∧ Ints W a x.xs.length x.xs := by
  obtain ⟨a, cap, h, ho, _⟩ := oI_own (hb.rep x)
  simp at h
  exact ⟨a, cap, h, ho.ints⟩
/-- The comparison, at elements. -/
theorem eqEl_any {w W : World} {g : Nat} (x y : El w g) (hb : But g w W) :
    Calls Try.prog 191 #[x.v, y.v] W fun e w' => e = .returned (.bool (decide (x.xs = y.xs))) ∧ Drew W w' := by
  obtain ⟨a, cap, h1, i1⟩ := x.ints hb
  obtain ⟨b, cap', h2, i2⟩ := y.ints hb
  rw [h1, h2]
  exact eqFn_any a b _ _ cap cap' _ _ W i1 i2

theorem setCells_pre {g c : Nat} : ∀ (zs : List Value) {W : World} {vs : List Value} {o : Nat}, At g c W vs → vs.length ≤ o → At g c (W.setCells g o zs) vs
  | [], W, vs, o, h, _ => h
  | z :: t, W, vs, o, h, ho => by
    have h1 := h.set (k := o) z
    rw [List.set_eq_of_length_le ho] at h1
    exact setCells_pre t h1 (by omega)
theorem setCells_turn {g : Nat} : ∀ (zs : List Value) (W : World) (o : Nat), Turn g (g + 1) W (W.setCells g o zs)
  | [], W, o => turn_refl _ _ _
  | z :: t, W, o => ((turn_refl g (g + 1) W).setIn (p := ⟨g, o, none⟩) (Nat.le_refl _) (Nat.lt_succ_self _) z).trans (setCells_turn t _ (o + 1))
theorem turn_drew {lo hi : Nat} {a b : World} (h : Drew a b) : Turn lo hi a b := by
  obtain ⟨m, rfl⟩ := h
  exact ⟨rfl, rfl, rfl, Nat.le_refl _, fun _ _ _ => rfl⟩
theorem Turn.but {g : Nat} {w a b : World} (h : But g w a) (hs : w.heap.size ≤ a.heap.size) (k : Turn g (g + 1) a b) : But g w b := fun i h1 h2 =>
  (k.block i (by omega) (by omega)).trans (h i h1 h2)
theorem dedRow_skip {α : Type} {key : α → List Int} {d : List α} {p : Nat} (h : keepAt key d p = false) : dedRow key d (p + 1) = dedRow key d p := by
  rw [dedRow, dedRow, dedTo_skip h]

set_option maxRecDepth 100000 in
set_option maxHeartbeats 4000000 in
theorem compF_any {w : World} {g c : Nat} (d : List (El w g)) (w1 : World) (ha : At g c w1 (d.map El.v)) (hb : But g w w1) (hsz : w.heap.size ≤ w1.heap.size) (hg : g < w.heap.size) (n : Nat) (hnl : d.length = n) (hn : n ≤ 1000000000) :
    Calls Try.prog 190 #[.slice (some ⟨g, 0, none⟩) n c, .func (.func 191) #[] #[]] w1 fun e w2 => e = .returned (.slice (some ⟨g, 0, none⟩) (dedTo El.xs d n).length c) ∧ At g c w2 ((dedTo El.xs d n).map El.v) ∧ Turn g (g + 1) w1 w2 := by
  have hcap : n ≤ c := by have := ha.le; simpa [hnl] using this
  have hcm := ha.cap
  have hcm2 : c ≤ 9223372036854775807 := by unfold maxLen at hcm; omega
  have hbq : ∀ W, Drew w1 W → But g w W := fun W h i h1 h2 => by obtain ⟨m, rfl⟩ := h; exact hb i h1 h2
  by_cases h2 : n < 2
  · have HD : Hid (dedTo El.xs d n = d) := Lib.hid (by
      rw [dedTo_all (fun j hj => by (obtain rfl : j = 0 := (by omega)); exact keepAt_zero), List.take_of_length_le (by omega)])
    have HA := Lib.hid ha
    clear ha hb hbq
    go_enter Try.func190, Try.ntmps190
    go_wp2_with fail
    go_ret
    exact ⟨by rw [HD.out, hnl]; rfl, by rw [HD.out]; exact HA.out, turn_refl _ _ _⟩
  go_enter Try.func190, Try.ntmps190
  go_wp2_with fail
  go_loopw [5] (fun s wr => ∃ k : Nat, 1 ≤ k ∧ k ≤ n ∧ s = .int .i64 k ∧ Hid (∀ j, j < k → keepAt El.xs d j = true) ∧ Drew w1 wr) (fun s _ => n - (intOf s).toNat)
  case atStart => exact ⟨1, Nat.le_refl _, by omega, rfl, Lib.hid (fun j hj => by (obtain rfl : j = 0 := (by omega)); exact keepAt_zero), Drew.refl _⟩
  case round =>
    obtain ⟨k, hk1, hk, rfl, hall, hdr⟩ := hrel
    obtain ⟨i, rfl⟩ : ∃ i, k = i + 1 := ⟨k - 1, by omega⟩
    have hld := hdr
    have ha2 := ha.drew hdr
    have hb2 := hbq wr hdr
    by_cases hlt : i + 1 < n
    · obtain ⟨x, hx⟩ : ∃ x, d[i + 1]? = some x := ⟨_, List.getElem?_eq_getElem (by omega)⟩
      obtain ⟨y, hy⟩ : ∃ y, d[i]? = some y := ⟨_, List.getElem?_eq_getElem (by omega)⟩
      obtain ⟨c1, f1⟩ := ha2.cell (j := i + 1) (u := x.v) (by simp [hx])
      obtain ⟨c0, f0⟩ := ha2.cell (j := i) (u := y.v) (by simp [hy])
      have heq := fun q => eqEl_any (W := wr.drewN q) x y (fun j h1 h2 => hb2 j h1 h2)
      have hka := keepAt_at (key := El.xs) hx hy
      obtain ⟨t, ht⟩ : ∃ t, decide (x.xs = y.xs) = t := ⟨_, rfl⟩
      rw [ht] at hka
      simp only [ht] at heq
      have HEQ := Lib.hid heq
      have HKA := Lib.hid hka
      have hi63 : IntKind.i64.wrap (i : Int) = (i : Int) := IntWalk.i64_in _ (by omega)
      clear heq hka ht
      cases t with
      | false =>
        have HALL : Hid (∀ j, j < i + 1 + 1 → keepAt El.xs d j = true) := Lib.hid (fun j hj => by
          by_cases e : j = i + 1
          · subst e; exact HKA.out
          · exact hall.out j (by omega))
        clear hall HKA
        go_wp2_with fail
        go_quiet ((go_at_call 191; exact quiet_drew (HEQ.out _)))
        clear hi63
        go_wp2_with fail
        go_roundw
        case rel => exact ⟨i + 1 + 1, by omega, by omega, by go_num, HALL, hld.step _⟩
        case measure => simp [intOf]; omega
      | true =>
        have hd1 : dedTo El.xs d (i + 1) = d.take (i + 1) := dedTo_all (fun j hj => hall.out j hj)
        have hd2 : dedTo El.xs d (i + 1 + 1) = d.take (i + 1) := by rw [dedTo_skip HKA.out, hd1]
        have hdl : (dedTo El.xs d (i + 1 + 1)).length = i + 1 := by rw [hd2, List.length_take]; omega
        have hdr2 : dedRow El.xs d (i + 1 + 1) = d := by rw [dedRow, hdl, hd2, List.take_append_drop]
        have HD1 := Lib.hid hdl
        have HD2 := Lib.hid hdr2
        clear hall HKA hd1 hd2 hdl hdr2
        go_wp2_with fail
        go_quiet ((go_at_call 191; exact quiet_drew (HEQ.out _)))
        clear hi63 HEQ
        have hwq := fun q => (turn_drew (lo := g) (hi := g + 1) (hld.step q))
        have haq := fun q => ha.drew (hld.step q)
        go_wp2_with fail
        go_loopw [5, 7] (fun s5 s7 wr => ∃ k2 kk : Nat, 1 ≤ k2 ∧ i + 1 + k2 ≤ n ∧ s7 = .int .i64 k2 ∧ s5 = .int .i64 kk ∧ kk + 1 ≤ i + 1 + k2 ∧ Hid ((dedTo El.xs d (i + 1 + k2)).length = kk) ∧ At g c wr ((dedRow El.xs d (i + 1 + k2)).map El.v) ∧ Turn g (g + 1) w1 wr) (fun _ s7 _ => n - (i + 1 + (intOf s7).toNat))
        case atStart => exact ⟨1, i + 1, Nat.le_refl _, by omega, rfl, rfl, by omega, HD1, by rw [HD2.out]; exact haq _, hwq _⟩
        case round =>
          obtain ⟨k2, kk, hk21, hk2, rfl, rfl, hkk, hlen, hA, hT⟩ := hrel
          obtain ⟨q, rfl⟩ : ∃ q, k2 = q + 1 := ⟨k2 - 1, by omega⟩
          have hb3 := Turn.but hb hsz hT
          clear haq hwq ha2 hb2
          by_cases hlt2 : i + 1 + (q + 1) < n
          · obtain ⟨x2, hx2⟩ : ∃ x, d[i + 1 + (q + 1)]? = some x := ⟨_, List.getElem?_eq_getElem (by omega)⟩
            obtain ⟨y2, hy2⟩ : ∃ y, d[i + 1 + q]? = some y := ⟨_, List.getElem?_eq_getElem (by omega)⟩
            obtain ⟨c3, f3⟩ := hA.cell (j := i + 1 + (q + 1)) (u := x2.v) (by rw [List.getElem?_map, dedRow_get (by rw [hlen.out]; omega), hx2]; rfl)
            obtain ⟨c2, f2⟩ := hA.cell (j := i + 1 + q) (u := y2.v) (by rw [List.getElem?_map, dedRow_get (by rw [hlen.out]; omega), hy2]; rfl)
            obtain ⟨z, hz⟩ : ∃ z, d[kk]? = some z := ⟨_, List.getElem?_eq_getElem (by omega)⟩
            obtain ⟨ck, fk⟩ := hA.cell (j := kk) (u := z.v) (by rw [List.getElem?_map, dedRow_get (by rw [hlen.out]; omega), hz]; rfl)
            have heq := fun q => eqEl_any (W := wr.drewN q) x2 y2 (fun j h1 h2 => hb3 j h1 h2)
            have hka : keepAt El.xs d (i + 1 + (q + 1)) = !decide (x2.xs = y2.xs) := keepAt_at (key := El.xs) (p := i + 1 + q) hx2 hy2
            obtain ⟨t, ht⟩ : ∃ t, decide (x2.xs = y2.xs) = t := ⟨_, rfl⟩
            rw [ht] at hka
            simp only [ht] at heq
            have HEQ := Lib.hid heq
            have hi63 : IntKind.i64.wrap (q : Int) = (q : Int) := IntWalk.i64_in _ (by omega)
            clear heq ht
            cases t with
            | true =>
              have HLEN : Hid ((dedTo El.xs d (i + 1 + (q + 1 + 1))).length = kk) := Lib.hid (by
                show (dedTo El.xs d (i + 1 + (q + 1) + 1)).length = kk
                rw [dedTo_skip hka, hlen.out])
              have HROW : Hid (dedRow El.xs d (i + 1 + (q + 1 + 1)) = dedRow El.xs d (i + 1 + (q + 1))) := Lib.hid (dedRow_skip hka)
              clear hka hlen
              go_wp2_with fail
              go_quiet ((go_at_call 191; exact quiet_drew (HEQ.out _)))
              clear hi63
              go_wp2_with fail
              go_roundw
              case rel => exact ⟨q + 1 + 1, kk, by omega, by omega, by go_num, rfl, by omega, HLEN, by rw [HROW.out]; exact hA.drew ⟨_, rfl⟩, hT.trans (turn_drew ⟨_, rfl⟩)⟩
              case measure => simp [intOf]; omega
            | false =>
              have HLEN : Hid ((dedTo El.xs d (i + 1 + (q + 1 + 1))).length = kk + 1) := Lib.hid (by
                show (dedTo El.xs d (i + 1 + (q + 1) + 1)).length = kk + 1
                rw [dedTo_keep hx2 hka, List.length_append, hlen.out]; rfl)
              have HROW : Hid ((dedRow El.xs d (i + 1 + (q + 1))).set kk x2 = dedRow El.xs d (i + 1 + (q + 1 + 1))) := Lib.hid (by
                have h9 := dedRow_set (key := El.xs) hx2 hka
                rw [hlen.out] at h9; exact h9)
              obtain ⟨xa, xcp, hxv⟩ := x2.form
              rw [hxv] at c3 HEQ
              clear hka hlen
              go_wp2_with fail
              go_quiet ((go_at_call 191; exact quiet_drew (HEQ.out _)))
              clear hi63
              go_wp2_with fail
              go_roundw
              case rel =>
                refine ⟨q + 1 + 1, kk + 1, by omega, by omega, by go_num, by go_num, by omega, HLEN, ?_, ?_⟩
                · rw [← HROW.out, List.map_set]
                  rw [hxv]
                  exact (hA.drew ⟨_, rfl⟩).set _
                · exact (hT.trans (turn_drew ⟨_, rfl⟩)).setIn (p := ⟨g, kk, none⟩) (Nat.le_refl _) (Nat.lt_succ_self _) _
              case measure => simp [intOf]; omega
          · have hpn : i + 1 + (q + 1) = n := by omega
            rw [hpn] at hA hlen
            have hkn : kk < n := by omega
            have hcl : ∀ ty, (Builtin.clear_ #[32] ty #[.slice (some ⟨g, kk, none⟩) (n - kk) (c - kk)]).run Try.prog wr = .ok (.tuple #[]) (wr.setCells g kk (List.replicate (n - kk) (.slice none 0 0))) := fun ty =>
              Lib.run_clear_slice wr 32 24 ty (.slice none 0 0) Try.underlying32 Try.zeroValue24 rfl rfl g kk (n - kk) (c - kk) (by omega)
                (fun j hj => by
                  obtain ⟨u, hu⟩ : ∃ u, ((dedRow El.xs d n).map El.v)[kk + j]? = some u := ⟨_, List.getElem?_eq_getElem (by rw [List.length_map, dedRow_len (by omega)]; omega)⟩
                  rw [(hA.cell hu).1]; rfl)
                (fun j hj => by
                  obtain ⟨u, hu⟩ : ∃ u, ((dedRow El.xs d n).map El.v)[kk + j]? = some u := ⟨_, List.getElem?_eq_getElem (by rw [List.length_map, dedRow_len (by omega)]; omega)⟩
                  exact (hA.cell hu).2)
            have HA := Lib.hid (show At g c (wr.setCells g kk (List.replicate (n - kk) (.slice none 0 0))) ((dedTo El.xs d n).map El.v) from
              setCells_pre _ (by rw [dedRow, List.map_append] at hA; exact hA.pre) (by rw [List.length_map, hlen.out]; exact Nat.le_refl _))
            have HT := Lib.hid (hT.trans (setCells_turn (List.replicate (n - kk) (.slice none 0 0)) wr kk))
            clear hA hT hb3 hpn
            go_wp2_with fail
            go_ret
            exact ⟨by rw [hlen.out]; rfl, HA.out, HT.out⟩
    · have hkn : i + 1 = n := by omega
      have HD : Hid (dedTo El.xs d n = d) := Lib.hid (by
        rw [dedTo_all (fun j hj => hall.out j (by omega)), List.take_of_length_le (by omega)])
      have HA := Lib.hid ha2
      clear hall ha2 hb2 ha hb hbq
      go_wp2_with fail
      go_ret
      exact ⟨by rw [HD.out, hnl]; rfl, by rw [HD.out]; exact HA.out, turn_drew hld⟩

theorem But.sortA {w : World} {g m : Nat} (dk : Array (El w g)) (os : Array Obj) : But g w (Go.Proofs.sortWorld El.v w g 0 m dk os) := fun k hk hs => by
  unfold Go.Proofs.sortWorld
  rw [heap_grow_old _ _ (by rw [size_putRow]; exact hs)]
  simp only [putRow, mapBlock, Array.getElem?_modify]
  rw [if_neg (Ne.symm hk)]
  rfl
theorem sortW_below {w : World} {g m lo : Nat} (dk : Array (El w g)) (os : Array Obj) (hl : lo ≤ w.heap.size) (hg : lo ≤ g) : Below lo w (Go.Proofs.sortWorld El.v w g 0 m dk os) :=
  ⟨rfl, rfl, rfl, by unfold Go.Proofs.sortWorld; rw [size_grow, size_putRow]; exact Nat.le_add_right _ _, fun k hk => But.sortA dk os k (by omega) (by omega)⟩
/-- impl.CompareRows, wherever the library's sort calls it. -/
theorem cmpLays {w : World} {g n : Nat} : Go.Proofs.CmpLays1 Try.prog 189 #[] (El.v (w := w) (g := g)) cfE g 0 n w := by
  intro m os dk hs x y
  obtain ⟨a, cap, h1, i1⟩ := x.ints (But.sortA (m := m) dk os)
  obtain ⟨b, cap', h2, i2⟩ := y.ints (But.sortA (m := m) dk os)
  rw [h1, h2]
  refine (cmpRows_any a b _ _ cap cap' _ _ _ i1 i2).mono ?_
  rintro e w' ⟨rfl, rfl⟩
  exact ⟨rfl, 0, #[], (grow_empty _).symm⟩
theorem own_nilptr {lo hi n c : Nat} {w : World} {rows : List (List Int)} {a : Option Addr} (h : Own oII lo hi w [.slice a n c] rows) : (a = none ∧ n = 0 ∧ c = 0 ∧ rows = []) ∨ ∃ g, a = some ⟨g, 0, none⟩ ∧ rows.length = n := by
  obtain ⟨fp, ⟨v, css, fs, hv, rfl, h1, h2⟩, hn, hb⟩ := h
  simp only [List.cons.injEq, and_true] at hv
  subst hv
  have hr := oI.rows_len h2
  rcases h1.2 with ⟨h9, h0⟩ | ⟨g, cap, cur, hv', _, _, _, _, _, _⟩
  · simp at h9
    exact .inl ⟨h9.1, h9.2.1, h9.2.2, List.eq_nil_of_length_eq_zero h0⟩
  · simp at hv'
    exact .inr ⟨g, hv'.1, hv'.2.1.symm⟩

end Go.Proofs.Ytbkoddikfpkocaa

/- Contracts: the copy of a table, of the reference. -/
namespace Go.Proofs.Ytbkoddikfpkocaa
open Go.RowKit Go.Sort
set_option linter.unusedVariables false
set_option linter.unusedSimpArgs false
set_option synthInstance.maxSize 2000
set_option synthInstance.maxHeartbeats 400000

/-- A builtin append at a step of a region that draws, by its run. -/
theorem step_app {ops : Array Oper} {o : Oper} {a : Act} {K : Act → World → Prop} {Q : Exit → Act → World → Prop} {E : Prop} {w w' : World} {s x : Operand} {t t' : TypeId} {vs vx v' : Value}
    {ty : TypeId} (hrun : (Builtin.append_ #[t, t'] ty #[vs, vx]).run Try.prog w = .ok v' w') (hty : o.type = ty) (hgd : o.guard = none)
    (ho : o.op = .call { callee := .builtin .append, args := #[s, x], argTypes := #[t, t'] }) (hs : a.eval s = vs) (hx : a.eval x = vx)
    (h : K (a.put o.dst v') w') :
    if Region.wanted o (yielded ops a.tmps) = true then Oper.wp Try.prog o a w K Q else E := by
  have hw : Region.wanted o (yielded ops a.tmps) = true := by simp [Region.wanted, hgd]
  rw [if_pos hw]
  unfold Oper.wp execOp
  simp only [ho, resolve, invoke, builtin, Sem.run_bind, Sem.run_pure, Result.andThen_ok, List.map_toArray, List.map_cons, List.map_nil, hs, hx, hty, hrun]
  exact h

theorem cell_ad {w : World} {o : Obj} {p : Addr} {v : Value} (h : w.cell? p = some v) : (w.alloc o).cell? p = some v :=
  (((Below.refl _ _).alloc (Nat.le_refl _) o).cell (p := p) (World.block_lt_of_cell? w p h)).trans h
theorem cell_add {w : World} {o : Obj} {p : Addr} {v : Value} (h : w.cell? p = some v) : (w.alloc o).drew.cell? p = some v :=
  (((Below.refl _ _).alloc (Nat.le_refl _) o).drew.cell (p := p) (World.block_lt_of_cell? w p h)).trans h
/-- What a cell holds. -/
def valAt (W : World) (p : Addr) : Value := (W.cell? p).getD undef
theorem valAt_eq {W : World} {p : Addr} {v : Value} (h : W.cell? p = some v) : valAt W p = v := by unfold valAt; rw [h]; rfl
theorem valAt_of {W : World} {p : Addr} {v : Value} (h : W.cell? p = some v) : W.cell? p = some (valAt W p) := by rw [valAt_eq h, h]
theorem valAt_set {W : World} {p q : Addr} {u v : Value} (h : W.cell? q = some v) : (W.setCell p u).cell? q = some (valAt (W.setCell p u) q) := by
  obtain ⟨v', h'⟩ := cell?_setCell_some (p := p) (x := u) h
  exact valAt_of h'
theorem cell_set {W : World} {p q : Addr} {u v : Value} (h : W.cell? q = some v) (hne : q.block ≠ p.block) : (W.setCell p u).cell? q = some v :=
  (World.cell?_of_block (a := q) (Below.heap_setCell _ _ _ _ hne)).trans h
/-- 'append([]int{}, xs...)', run. -/
theorem run_copyI (W W1 : World) (ty : TypeId) (n c : Nat) (ad : Option Addr) (xs : List Int) (hi : Ints W ad n xs) (hn : n ≤ 1000000000000) (hW1 : W1 = W.alloc (.cells #[] 3)) :
    ∃ v' w', (Builtin.append_ #[24, 24] ty #[.slice (some ⟨W.heap.size, 0, none⟩) 0 0, .slice ad n c]).run Try.prog W1 = .ok v' w' ∧ Own oI W.heap.size w'.heap.size w' [v'] xs ∧ Below W.heap.size W w' ∧ W.heap.size < w'.heap.size := by
  subst hW1
  obtain ⟨i, hi0, hz0, hz1, hz2⟩ := info_parts infoInt
  have hown := own_empty (Nat.le_refl W.heap.size)
  have hbl : Below W.heap.size W (W.alloc (.cells #[] 3)) := (Below.refl _ _).alloc (Nat.le_refl _) _
  replace hi := hi.below hbl
  cases ad with
  | none =>
    have hn0 : n = 0 := by
      rcases Nat.eq_zero_or_pos n with h0 | h0
      · exact h0
      · obtain ⟨b, off, hb, _⟩ := hi.cell 0 h0; simp at hb
    subst hn0
    have hx0 : xs = [] := List.eq_nil_of_length_eq_zero hi.len
    subst hx0
    have hr : (Builtin.append_ #[24, 24] ty #[.slice (some ⟨W.heap.size, 0, none⟩) 0 0, .slice none 0 c]).run Try.prog (W.alloc (.cells #[] 3)) = .ok (.slice (some ⟨W.heap.size, 0, none⟩) 0 0) (W.alloc (.cells #[] 3)) := run_append_room_src (P := Try.prog) (W.alloc (.cells #[] 3)) 24 24 ty 3 i Try.underlying24 hi0 W.heap.size 0 0 0 (.slice none 0 c) 0 [] (Src.ofNil _ Try.underlying24 c) (by omega) (by simp) (by simp)
    exact ⟨_, _, hr, hown.own, hbl, by simp⟩
  | some ad =>
    have hnews : ∀ j u, (xs.map (Value.int .i64))[j]? = some u → (W.alloc (.cells #[] 3)).cell? (ad.add j) = some u := by
      intro j u hu
      rw [List.getElem?_map] at hu
      have hj : j < n := by
        rw [← hi.len]
        rcases Nat.lt_or_ge j xs.length with h1 | h1
        · exact h1
        · rw [List.getElem?_eq_none h1] at hu; simp at hu
      obtain ⟨b, off, hb, hc⟩ := hi.cell j hj
      simp at hb
      subst hb
      rw [List.getD_eq_getElem?_getD] at hc
      rw [List.getElem?_eq_getElem (by rw [hi.len]; exact hj)] at hu hc
      simp at hu
      subst hu
      rw [Addr.add_lit]
      simpa using hc
    obtain ⟨v', w', hrun, h1, h2, _⟩ := run_append_own_at (P := Try.prog) (W.alloc (.cells #[] 3)) W.heap.size 24 ty 3 i (.int .i64 0) 1 8 Try.underlying24 hi0 hz0 hz1 hz2 rfl (by decide) _ 0 [] (by simpa using hown.row) ad n c (xs.map (Value.int .i64)) (by simp [hi.len]) hnews (by intro z hz; simp at hz; obtain ⟨y, _, rfl⟩ := hz; rfl) (by unfold maxLen; omega) (by omega) (by simp)
    refine ⟨v', w', hrun, (OwnInts.own ⟨hi.len, by simpa using h1, hi.rng⟩), hbl.grown h2 (by simp) (fun k hk => by simp [Value.ownBlock] at hk; omega), ?_⟩
    have := h2.size; simp at this; omega

set_option maxRecDepth 100000 in
set_option maxHeartbeats 2000000 in
theorem l4Copy_any (cs : List Value) (x : DT) (w : World) (h : rT.rep w cs x) (hn : bulk_T x ≤ 100000000) :
    Calls Try.prog 193 #[.agg cs.toArray] w fun e w' => ∃ ds, e = .returned (.agg ds.toArray) ∧ Own oT w.heap.size w'.heap.size w' ds x ∧ Below w.heap.size w w' := by
  obtain ⟨ub, un, uc, rfl, hs, hi, g1⟩ := rT_open h
  clear h
  obtain ⟨s, i, rows⟩ := x
  simp only at hs hi g1
  have hn2 : bulk_II rows ≤ 100000000 := by unfold bulk_T at hn; simp only at hn; omega
  clear hn
  have t0 := rS_sl g1
  have hl := t0.len
  have hn1 : un ≤ 100000000 := by unfold bulk_II at hn2; omega
  have hrows : ∀ (j : Nat) (r : List Int), rows[j]? = some r → r.length ≤ 100000000 := fun j r hr => by
    have h9 := sumBy_mem bulk_I hr; unfold bulk_II at hn2; unfold bulk_I at h9 hn2; omega
  have HR := Lib.hid hrows
  clear hrows hn2
  have hb0 : Below w.heap.size w w := Below.refl _ _
  go_enter Try.func193, Try.ntmps193
  obtain ⟨w1, hw1⟩ : ∃ W, W = w.alloc (.cells #[.string s, .int .i64 i, .slice ub un uc] 34) := ⟨_, rfl⟩
  have z1 : Below w.heap.size w w1 := by rw [hw1]; exact (Below.refl _ _).alloc (Nat.le_refl _) _
  have s1 : w1.heap.size = w.heap.size + 1 := by rw [hw1]; simp
  have hb1 := on hb0 z1
  have b_0 : w1.cell? ⟨w.heap.size, 0, none⟩ = some (.string s) := by rw [hw1]; exact box_cell (Below.refl _ _) rfl
  have b_1 : w1.cell? ⟨w.heap.size, 1, none⟩ = some (.int .i64 i) := by rw [hw1]; exact box_cell (Below.refl _ _) rfl
  have b_2 : w1.cell? ⟨w.heap.size, 2, none⟩ = some (.slice ub un uc) := by rw [hw1]; exact box_cell (Below.refl _ _) rfl
  have b_f0 : w1.frozen? ⟨w.heap.size, 0, none⟩ = false := by rw [hw1]; exact box_frozen (Below.refl _ _)
  have b_f1 : w1.frozen? ⟨w.heap.size, 1, none⟩ = false := by rw [hw1]; exact box_frozen (Below.refl _ _)
  have b_f2 : w1.frozen? ⟨w.heap.size, 2, none⟩ = false := by rw [hw1]; exact box_frozen (Below.refl _ _)
  have raw1_b_0 := b_0
  have raw1_b_1 := b_1
  have raw1_b_2 := b_2
  rw [hw1] at raw1_b_0 raw1_b_1 raw1_b_2
  obtain ⟨w2, hw2⟩ : ∃ W, W = w1.alloc (.cells #[.string ⟨#[]⟩, .int .i64 0, .slice none 0 0] 34) := ⟨_, rfl⟩
  have z2 : Below w1.heap.size w1 w2 := by rw [hw2]; exact (Below.refl _ _).alloc (Nat.le_refl _) _
  have s2 : w2.heap.size = w1.heap.size + 1 := by rw [hw2]; simp
  have hb2 := on hb1 z2
  replace b_0 := (z2.cell (p := ⟨w.heap.size, 0, none⟩) (by simp only []; omega)).trans b_0
  replace b_1 := (z2.cell (p := ⟨w.heap.size, 1, none⟩) (by simp only []; omega)).trans b_1
  replace b_2 := (z2.cell (p := ⟨w.heap.size, 2, none⟩) (by simp only []; omega)).trans b_2
  replace b_f0 := (z2.frozen (p := ⟨w.heap.size, 0, none⟩) (by simp only []; omega)).trans b_f0
  replace b_f1 := (z2.frozen (p := ⟨w.heap.size, 1, none⟩) (by simp only []; omega)).trans b_f1
  replace b_f2 := (z2.frozen (p := ⟨w.heap.size, 2, none⟩) (by simp only []; omega)).trans b_f2
  have e2 : w1.heap.size = w.heap.size + 1 := by omega
  have r_0 : w2.cell? ⟨w1.heap.size, 0, none⟩ = some (.string ⟨#[]⟩) := by rw [hw2]; exact box_cell (Below.refl _ _) rfl
  have r_1 : w2.cell? ⟨w1.heap.size, 1, none⟩ = some (.int .i64 0) := by rw [hw2]; exact box_cell (Below.refl _ _) rfl
  have r_2 : w2.cell? ⟨w1.heap.size, 2, none⟩ = some (.slice none 0 0) := by rw [hw2]; exact box_cell (Below.refl _ _) rfl
  rw [e2] at r_0 r_1 r_2
  have r_f0 : w2.frozen? ⟨w1.heap.size, 0, none⟩ = false := by rw [hw2]; exact box_frozen (Below.refl _ _)
  have r_f1 : w2.frozen? ⟨w1.heap.size, 1, none⟩ = false := by rw [hw2]; exact box_frozen (Below.refl _ _)
  have r_f2 : w2.frozen? ⟨w1.heap.size, 2, none⟩ = false := by rw [hw2]; exact box_frozen (Below.refl _ _)
  rw [e2] at r_f0 r_f1 r_f2
  have raw2_b_0 := b_0
  have raw2_b_1 := b_1
  have raw2_b_2 := b_2
  have raw2_r_0 := r_0
  have raw2_r_1 := r_1
  have raw2_r_2 := r_2
  rw [hw2, hw1] at raw2_b_0 raw2_b_1 raw2_b_2 raw2_r_0 raw2_r_1 raw2_r_2
  obtain ⟨w3, hw3⟩ : ∃ W, W = w2.alloc (.cells #[.string s, .int .i64 i, .slice none 0 0] 34) := ⟨_, rfl⟩
  have z3 : Below w2.heap.size w2 w3 := by rw [hw3]; exact (Below.refl _ _).alloc (Nat.le_refl _) _
  have s3 : w3.heap.size = w2.heap.size + 1 := by rw [hw3]; simp
  have hb3 := on hb2 z3
  replace b_0 := (z3.cell (p := ⟨w.heap.size, 0, none⟩) (by simp only []; omega)).trans b_0
  replace b_1 := (z3.cell (p := ⟨w.heap.size, 1, none⟩) (by simp only []; omega)).trans b_1
  replace b_2 := (z3.cell (p := ⟨w.heap.size, 2, none⟩) (by simp only []; omega)).trans b_2
  replace b_f0 := (z3.frozen (p := ⟨w.heap.size, 0, none⟩) (by simp only []; omega)).trans b_f0
  replace b_f1 := (z3.frozen (p := ⟨w.heap.size, 1, none⟩) (by simp only []; omega)).trans b_f1
  replace b_f2 := (z3.frozen (p := ⟨w.heap.size, 2, none⟩) (by simp only []; omega)).trans b_f2
  replace r_0 := (z3.cell (p := ⟨w.heap.size + 1, 0, none⟩) (by simp only []; omega)).trans r_0
  replace r_1 := (z3.cell (p := ⟨w.heap.size + 1, 1, none⟩) (by simp only []; omega)).trans r_1
  replace r_2 := (z3.cell (p := ⟨w.heap.size + 1, 2, none⟩) (by simp only []; omega)).trans r_2
  replace r_f0 := (z3.frozen (p := ⟨w.heap.size + 1, 0, none⟩) (by simp only []; omega)).trans r_f0
  replace r_f1 := (z3.frozen (p := ⟨w.heap.size + 1, 1, none⟩) (by simp only []; omega)).trans r_f1
  replace r_f2 := (z3.frozen (p := ⟨w.heap.size + 1, 2, none⟩) (by simp only []; omega)).trans r_f2
  have e3 : w2.heap.size = w.heap.size + 1 + 1 := by omega
  have x_0 : w3.cell? ⟨w2.heap.size, 0, none⟩ = some (.string s) := by rw [hw3]; exact box_cell (Below.refl _ _) rfl
  have x_1 : w3.cell? ⟨w2.heap.size, 1, none⟩ = some (.int .i64 i) := by rw [hw3]; exact box_cell (Below.refl _ _) rfl
  have x_2 : w3.cell? ⟨w2.heap.size, 2, none⟩ = some (.slice none 0 0) := by rw [hw3]; exact box_cell (Below.refl _ _) rfl
  rw [e3] at x_0 x_1 x_2
  have x_f0 : w3.frozen? ⟨w2.heap.size, 0, none⟩ = false := by rw [hw3]; exact box_frozen (Below.refl _ _)
  have x_f1 : w3.frozen? ⟨w2.heap.size, 1, none⟩ = false := by rw [hw3]; exact box_frozen (Below.refl _ _)
  have x_f2 : w3.frozen? ⟨w2.heap.size, 2, none⟩ = false := by rw [hw3]; exact box_frozen (Below.refl _ _)
  rw [e3] at x_f0 x_f1 x_f2
  have raw3_b_0 := b_0
  have raw3_b_1 := b_1
  have raw3_b_2 := b_2
  have raw3_r_0 := r_0
  have raw3_r_1 := r_1
  have raw3_r_2 := r_2
  have raw3_x_0 := x_0
  have raw3_x_1 := x_1
  have raw3_x_2 := x_2
  rw [hw3, hw2, hw1] at raw3_b_0 raw3_b_1 raw3_b_2 raw3_r_0 raw3_r_1 raw3_r_2 raw3_x_0 raw3_x_1 raw3_x_2
  go_wp2_with fail
  rw [← hw1]
  rw [← hw2]
  rw [← hw3]
  clear hw3 hw2 hw1
  clear raw1_b_0 raw1_b_1 raw1_b_2 raw2_b_0 raw2_b_1 raw2_b_2 raw2_r_0 raw2_r_1 raw2_r_2 raw3_b_0 raw3_b_1 raw3_b_2 raw3_r_0 raw3_r_1 raw3_r_2 raw3_x_0 raw3_x_1 raw3_x_2
  go_loopw [4] (fun k wr => ∃ (j : Nat) (v : Value), j ≤ un ∧ k = .int .i64 j ∧ wr.cell? ⟨w.heap.size + 1 + 1, 0, none⟩ = some (.string s) ∧ wr.cell? ⟨w.heap.size + 1 + 1, 1, none⟩ = some (.int .i64 i) ∧ wr.cell? ⟨w.heap.size + 1 + 1, 2, none⟩ = some v ∧ wr.frozen? ⟨w.heap.size + 1 + 1, 2, none⟩ = false ∧ Acc 24 oI w3.heap.size w3.heap.size wr.heap.size wr v (rows.take j) ∧ Turn (w.heap.size + 1 + 1) (w.heap.size + 1 + 1 + 1) w3 wr) (fun k _ => un - (intOf k).toNat)
  case atStart => exact ⟨0, _, Nat.zero_le _, rfl, x_0, x_1, x_2, x_f2, Acc.nil, turn_refl _ _ _⟩
  case round =>
    obtain ⟨j, v, hj, rfl, hv0, hv1, hv, hf, hacc, hdr⟩ := hrel
    have hlc := hdr
    have hE0 : w3.heap.size = w.heap.size + 3 := by omega
    obtain ⟨va, vn, vc, rfl⟩ := hacc.form3
    clear x_0 x_1 x_2 x_f0 x_f1 x_f2
    have s4 := hdr.size
    have hb4 := hb3.trans ((hdr.below (by omega)).mono (by omega))
    replace b_0 := (hdr.cell (p := ⟨w.heap.size, 0, none⟩) (by simp only []; omega) (by simp only []; omega)).trans b_0
    replace b_1 := (hdr.cell (p := ⟨w.heap.size, 1, none⟩) (by simp only []; omega) (by simp only []; omega)).trans b_1
    replace b_2 := (hdr.cell (p := ⟨w.heap.size, 2, none⟩) (by simp only []; omega) (by simp only []; omega)).trans b_2
    replace b_f0 := (World.frozen?_of_block (a := ⟨w.heap.size, 0, none⟩) (hdr.block _ (by simp only []; omega) (by simp only []; omega))).trans b_f0
    replace b_f1 := (World.frozen?_of_block (a := ⟨w.heap.size, 1, none⟩) (hdr.block _ (by simp only []; omega) (by simp only []; omega))).trans b_f1
    replace b_f2 := (World.frozen?_of_block (a := ⟨w.heap.size, 2, none⟩) (hdr.block _ (by simp only []; omega) (by simp only []; omega))).trans b_f2
    replace r_0 := (hdr.cell (p := ⟨w.heap.size + 1, 0, none⟩) (by simp only []; omega) (by simp only []; omega)).trans r_0
    replace r_1 := (hdr.cell (p := ⟨w.heap.size + 1, 1, none⟩) (by simp only []; omega) (by simp only []; omega)).trans r_1
    replace r_2 := (hdr.cell (p := ⟨w.heap.size + 1, 2, none⟩) (by simp only []; omega) (by simp only []; omega)).trans r_2
    replace r_f0 := (World.frozen?_of_block (a := ⟨w.heap.size + 1, 0, none⟩) (hdr.block _ (by simp only []; omega) (by simp only []; omega))).trans r_f0
    replace r_f1 := (World.frozen?_of_block (a := ⟨w.heap.size + 1, 1, none⟩) (hdr.block _ (by simp only []; omega) (by simp only []; omega))).trans r_f1
    replace r_f2 := (World.frozen?_of_block (a := ⟨w.heap.size + 1, 2, none⟩) (hdr.block _ (by simp only []; omega) (by simp only []; omega))).trans r_f2
    have y_0 : wr.cell? ⟨w.heap.size + 1 + 1, 0, none⟩ = some (.string s) := hv0
    have y_1 : wr.cell? ⟨w.heap.size + 1 + 1, 1, none⟩ = some (.int .i64 i) := hv1
    have y_2 : wr.cell? ⟨w.heap.size + 1 + 1, 2, none⟩ = some (.slice va vn vc) := hv
    have hlen : (rows.take j).length ≤ j := List.length_take_le _ _
    by_cases hlt : j < un
    · obtain ⟨b1, o1, ra, rn, rc, t, rfl, hc, hx, hri, hq1, hq2⟩ := t0.row hlt
      have hclt : b1 < w.heap.size := cell_lt hc
      have e_0 : wr.cell? ⟨b1, o1 + j, none⟩ = some (.slice ra rn rc) := (hb4.cell (p := ⟨b1, o1 + j, none⟩) hclt).trans hc
      have HT := Lib.hid (take_snoc' rows j t hx.out)
      have hxl := HR.out j t hx.out
      clear hx hc t0 hl g1
      go_wp2_with fail
      have hri2 := (hri.below hb4).below (Below.refl wr.heap.size wr).drew
      have htl : t.length ≤ 100000000 := hxl
      have hrn : rn ≤ 100000000 := by rw [← hri.len]; exact hxl
      refine wp_region_noPanic ?_
      refine wp_region_lastP (fun W => W.cell? ⟨w.heap.size, 2, none⟩ = some (.slice (some ⟨b1, o1, none⟩) un uc) ∧ W.cell? ⟨w.heap.size + 1 + 1, 2, none⟩ = some (.slice va vn vc) ∧ W.cell? ⟨b1, o1 + j, none⟩ = some (.slice ra rn rc)) 12 (by kernel_rfl) rfl (by kernel_rfl) (by kernel_rfl) ?hS (fun hHeld ops hops => ?_)
      case hS => exact ⟨b_2, y_2, e_0⟩
      simp only [List.pop_toArray, List.dropLast_cons_cons, List.dropLast_singleton] at hops
      subst hops
      refine wpAnyH_take (i := 0) (v := ?v0) rfl (by kernel_rfl) (by kernel_rfl) (by kernel_rfl) (fun _ _ _ h => h) (Or.inl ⟨by rfl, ?hy0⟩) (by assumption) ?rest0
      case hy0 => intro w hSw; (try dsimp only at hSw); go_simp; (try with_reducible rfl)
      try simp only [Act.put, List.setIfInBounds_toArray, List.set_cons_zero, List.set_cons_succ]
      refine wpAnyH_take (i := 1) (v := ?v1) rfl (by kernel_rfl) (by kernel_rfl) (by kernel_rfl) (fun _ _ _ h => h) (Or.inl ⟨by rfl, ?hy1⟩) (by assumption) ?rest1
      case hy1 => intro w hSw; (try dsimp only at hSw); go_simp; (try with_reducible rfl)
      try simp only [Act.put, List.setIfInBounds_toArray, List.set_cons_zero, List.set_cons_succ]
      refine wpAnyH_take (i := 3) (v := ?v3) rfl (by kernel_rfl) (by kernel_rfl) (by kernel_rfl) (fun _ _ _ h => h) (Or.inl ⟨by rfl, ?hy3⟩) (by assumption) ?rest3
      case hy3 => intro w hSw; (try dsimp only at hSw); go_simp; (try with_reducible rfl)
      try simp only [Act.put, List.setIfInBounds_toArray, List.set_cons_zero, List.set_cons_succ]
      refine wpAnyH_take (i := 4) (v := ?v4) rfl (by kernel_rfl) (by kernel_rfl) (by kernel_rfl) (fun _ _ _ h => h) (Or.inl ⟨by rfl, ?hy4⟩) (by assumption) ?rest4
      case hy4 => intro w hSw; (try dsimp only at hSw); go_simp; (try with_reducible rfl)
      try simp only [Act.put, List.setIfInBounds_toArray, List.set_cons_zero, List.set_cons_succ]
      refine wpAnyH_take (i := 5) (v := ?v5) rfl (by kernel_rfl) (by kernel_rfl) (by kernel_rfl) (fun _ _ _ h => h) (Or.inl ⟨by rfl, ?hy5⟩) (by assumption) ?rest5
      case hy5 => intro w hSw; (try dsimp only at hSw); go_simp; (try with_reducible rfl)
      try simp only [Act.put, List.setIfInBounds_toArray, List.set_cons_zero, List.set_cons_succ]
      refine wpAnyH_take (i := 6) (v := ?v6) rfl (by kernel_rfl) (by kernel_rfl) (by kernel_rfl) (fun _ _ _ h => h) (Or.inl ⟨by rfl, ?hy6⟩) (by assumption) ?rest6
      case hy6 => intro w hSw; (try dsimp only at hSw); go_simp; (try with_reducible rfl)
      try simp only [Act.put, List.setIfInBounds_toArray, List.set_cons_zero, List.set_cons_succ]
      refine wpAnyH_take (i := 7) (v := ?v7) rfl (by kernel_rfl) (by kernel_rfl) (by kernel_rfl) (fun _ _ _ h => h) (Or.inl ⟨by rfl, ?hy7⟩) (by assumption) ?rest7
      case hy7 => intro w hSw; (try dsimp only at hSw); go_simp; (try with_reducible rfl)
      try simp only [Act.put, List.setIfInBounds_toArray, List.set_cons_zero, List.set_cons_succ]
      refine wpAnyH_ready (rs := [2]) (by kernel_rfl) (by simp) ?_
      refine AllReadyH.cons rfl (fun K hK => ?_) AllReadyH.nil
      go_simp
      refine hK.out _ _ ?_ (fun hHeld => ?_)
      · exact ⟨cell_add b_2, cell_add y_2, cell_add e_0⟩
      clear hK K
      try simp only [Act.put, List.setIfInBounds_toArray, List.set_cons_zero, List.set_cons_succ]
      refine wpAnyH_ready (rs := [8]) (by kernel_rfl) (by simp) ?_
      refine AllReadyH.cons rfl (fun K hK => ?_) AllReadyH.nil
      obtain ⟨v1, w1, hr1, ho1, hbw, hsz1⟩ := run_copyI wr.drew (wr.alloc (.cells #[] 3)).drew 24 rn rc ra t hri2 (by omega) rfl
      refine step_app hr1 (by rfl) (by rfl) (by rfl) (by rfl) (by rfl) ?_
      obtain ⟨a1, n1, c1, rfl⟩ := oI_form1 ho1
      have hb5 : Below wr.heap.size wr w1 := (Below.refl _ _).drew.trans hbw
      have hS1 := (⟨(hb5.cell (p := ⟨w.heap.size, 2, none⟩) (by simp only []; omega)).trans b_2, (hb5.cell (p := ⟨w.heap.size + 1 + 1, 2, none⟩) (by simp only []; omega)).trans y_2, (hb5.cell (p := ⟨b1, o1 + j, none⟩) (by simp only []; omega)).trans e_0⟩ : (fun W => W.cell? ⟨w.heap.size, 2, none⟩ = some (.slice (some ⟨b1, o1, none⟩) un uc) ∧ W.cell? ⟨w.heap.size + 1 + 1, 2, none⟩ = some (.slice va vn vc) ∧ W.cell? ⟨b1, o1 + j, none⟩ = some (.slice ra rn rc)) w1)
      have ho2 : Own oI wr.heap.size w1.heap.size w1 [.slice a1 n1 c1] t := ho1
      have hsz3 : wr.heap.size < w1.heap.size := hsz1
      refine hK.out _ _ ?_ (fun hHeld => ?_)
      · exact hS1
      clear hK K
      try simp only [Act.put, List.setIfInBounds_toArray, List.set_cons_zero, List.set_cons_succ]
      refine wpAnyH_ready (rs := [9]) (by kernel_rfl) (by simp) ?_
      refine AllReadyH.cons rfl (fun K hK => ?_) AllReadyH.nil
      go_simp
      refine hK.out _ _ ?_ (fun hHeld => ?_)
      · exact ⟨cell_ad hS1.1, cell_ad hS1.2.1, cell_ad hS1.2.2⟩
      clear hK K
      try simp only [Act.put, List.setIfInBounds_toArray, List.set_cons_zero, List.set_cons_succ]
      refine wpAnyH_ready (rs := [10]) (by kernel_rfl) (by simp) ?_
      refine AllReadyH.cons rfl (fun K hK => ?_) AllReadyH.nil
      obtain ⟨v2, w2, hr2, hacc2, ht2, hsz2, hk2⟩ := run_acc Try.underlying32 infoI rfl (by decide) (by decide) rfl 32 (.slice va vn vc) (rows.take j) [.slice a1 n1 c1] t (hacc.below hb5 (Nat.le_refl _)) ho2 (by intro z hz; simp at hz; subst hz; rfl) s4 (Nat.le_refl _) (by omega) (Nat.le_refl _) (hlc.trans (turn_below hb5 (Nat.le_refl _))) rfl (.inr (Nat.le_refl _)) (by omega) (by omega) rfl
      refine step_app hr2 (by rfl) (by rfl) (by rfl) (by rfl) (by rfl) ?_
      obtain ⟨a2, n2, c2, rfl⟩ := hacc2.form3
      have hS2 := (⟨(World.cell?_of_block (a := ⟨w.heap.size, 2, none⟩) (hk2 _ (by simp only []; omega) (by simp only []; omega))).trans hS1.1, (World.cell?_of_block (a := ⟨w.heap.size + 1 + 1, 2, none⟩) (hk2 _ (by simp only []; omega) (by simp only []; omega))).trans hS1.2.1, (World.cell?_of_block (a := ⟨b1, o1 + j, none⟩) (hk2 _ (by simp only []; omega) (by simp only []; omega))).trans hS1.2.2⟩ : (fun W => W.cell? ⟨w.heap.size, 2, none⟩ = some (.slice (some ⟨b1, o1, none⟩) un uc) ∧ W.cell? ⟨w.heap.size + 1 + 1, 2, none⟩ = some (.slice va vn vc) ∧ W.cell? ⟨b1, o1 + j, none⟩ = some (.slice ra rn rc)) w2)
      have y_d := hS2.2.1
      have hf2 : w2.frozen? ⟨w.heap.size + 1 + 1, 2, none⟩ = false := (World.frozen?_of_block (a := ⟨w.heap.size + 1 + 1, 2, none⟩) (hk2 _ (by simp only []; omega) (by simp only []; omega))).trans ((hb5.frozen (p := ⟨w.heap.size + 1 + 1, 2, none⟩) (by simp only []; omega)).trans hf)
      refine hK.out _ _ ?_ (fun hHeld => ?_)
      · exact hS2
      clear hK K
      try simp only [Act.put, List.setIfInBounds_toArray, List.set_cons_zero, List.set_cons_succ]
      refine wpAnyH_take (i := 11) (v := ?v11) rfl (by kernel_rfl) (by kernel_rfl) (by kernel_rfl) (fun _ _ _ h => h) (Or.inl ⟨by rfl, ?hy11⟩) (by assumption) ?rest11
      case hy11 => intro w hSw; (try dsimp only at hSw); go_simp; (try with_reducible rfl)
      try simp only [Act.put, List.setIfInBounds_toArray, List.set_cons_zero, List.set_cons_succ]
      refine wpAnyH_done (by kernel_rfl) ?_ _
      simp only [LastQ]
      go_simp
      refine NoPanic.normal ?_
      have y_0d : w2.cell? ⟨w.heap.size + 1 + 1, 0, none⟩ = some (.string s) := (World.cell?_of_block (a := ⟨w.heap.size + 1 + 1, 0, none⟩) (hk2 _ (by simp only []; omega) (by simp only []; omega))).trans ((hb5.cell (p := ⟨w.heap.size + 1 + 1, 0, none⟩) (by simp only []; omega)).trans y_0)
      have y_1d : w2.cell? ⟨w.heap.size + 1 + 1, 1, none⟩ = some (.int .i64 i) := (World.cell?_of_block (a := ⟨w.heap.size + 1 + 1, 1, none⟩) (hk2 _ (by simp only []; omega) (by simp only []; omega))).trans ((hb5.cell (p := ⟨w.heap.size + 1 + 1, 1, none⟩) (by simp only []; omega)).trans y_1)
      rw [← HT.out] at hacc2
      have hacc3 := hacc2.setOut (p := ⟨w.heap.size + 1 + 1, 2, none⟩) (hi' := (w2.setCell ⟨w.heap.size + 1 + 1, 2, none⟩ (.slice a2 n2 c2)).heap.size) (.slice a2 n2 c2) (by simp only []; omega) (by simp only []; omega) (by simp [World.setCell])
      have ht3 := ht2.setIn (p := ⟨w.heap.size + 1 + 1, 2, none⟩) (by simp) (by simp) (.slice a2 n2 c2)
      have k0 : (w2.setCell ⟨w.heap.size + 1 + 1, 2, none⟩ (.slice a2 n2 c2)).cell? ⟨w.heap.size + 1 + 1, 0, none⟩ = some (.string s) := by go_simp
      have k1 : (w2.setCell ⟨w.heap.size + 1 + 1, 2, none⟩ (.slice a2 n2 c2)).cell? ⟨w.heap.size + 1 + 1, 1, none⟩ = some (.int .i64 i) := by go_simp
      have k2 : (w2.setCell ⟨w.heap.size + 1 + 1, 2, none⟩ (.slice a2 n2 c2)).cell? ⟨w.heap.size + 1 + 1, 2, none⟩ = some (.slice a2 n2 c2) := by go_simp
      have k3 : (w2.setCell ⟨w.heap.size + 1 + 1, 2, none⟩ (.slice a2 n2 c2)).frozen? ⟨w.heap.size + 1 + 1, 2, none⟩ = false := by go_simp
      go_wp2_with fail
      refine ⟨⟨j + 1, .slice a2 n2 c2, by omega, by go_num, k0, k1, k2, k3, hacc3, ht3⟩, ?_⟩
      simp [intOf]; omega
    · obtain rfl : j = un := by omega
      rw [List.take_of_length_le (by omega)] at hacc
      go_wp2_with fail
      refine bodyPost_ret (v := .agg #[.string s, .int .i64 i, .slice va vn vc]) (by simp [results, Try.results193, go_sem, y_0, y_1, y_2, r_0, r_1, r_2, r_f0, r_f1, r_f2]) rfl ⟨_, rfl, ?_, ?_⟩
      · refine oT_mk (x := (s, i, rows)) hs hi (l2 := w.heap.size + 1 + 1 + 1) (m2 := wr.heap.size) ?_ (by omega) (by simp [World.setCell])
        repeat (refine Own.setOut ?_ rfl (by simp only []; omega))
        exact hacc.own (by omega) (by omega) (Nat.le_refl _)
      · repeat (refine Below.setCell ?_ (by simp only []; omega) _)
        exact hb4

end Go.Proofs.Ytbkoddikfpkocaa

/- Contracts: statistics compared by the reference. -/
namespace Go.Proofs.Ytbkoddikfpkocaa
open Go.RowKit
set_option linter.unusedVariables false
set_option linter.unusedSimpArgs false
set_option synthInstance.maxSize 2000
set_option synthInstance.maxHeartbeats 400000

theorem cmp_K (u v : Value) (xs ys : List Int) (w : World) (h : rI.rep w [u] xs) (h' : rI.rep w [v] ys) :
    Calls Try.prog 104 #[u, v] w fun e w' => e = .returned (.int .i64 (cmpRows xs ys)) ∧ Below w.heap.size w w' := by
  obtain ⟨a, cap, rfl, _, _, hi⟩ := rI_open h
  obtain ⟨a', cap', rfl, _, _, hi'⟩ := rI_open h'
  exact (cmp_spec _ _ _ _ _ _ _ _ _ hi hi').mono fun e w' ⟨h1, h2⟩ => ⟨h1, h2.below _⟩

set_option maxHeartbeats 4000000 in
theorem equalTs_spec (cs ds : List Value) (x y : DTs) (w : World) (h : rTs.rep w cs x) (h' : rTs.rep w ds y) :
    Calls Try.prog 162 #[.agg cs.toArray, .agg ds.toArray] w fun e w' => e = .returned (.bool (decide (x = y))) ∧ Below w.heap.size w w' := by
  obtain ⟨ub3, un3, uc3, rfl, g0, g1, g2, g3⟩ := rTs_open h
  obtain ⟨vb3, vn3, vc3, rfl, k0, k1, k2, k3⟩ := rTs_open h'
  clear h h'
  have hb0 : Below w.heap.size w w := Below.refl _ _
  go_enter Try.func162, Try.ntmps162
  obtain ⟨w1, hw1⟩ : ∃ W, W = w.alloc (.cells #[.string x.1, .int .i64 x.2.1, .int .i64 x.2.2.1, .slice ub3 un3 uc3] 101) := ⟨_, rfl⟩
  have z1 : Below w.heap.size w w1 := by rw [hw1]; exact (Below.refl _ _).alloc (Nat.le_refl _) _
  have s1 : w1.heap.size = w.heap.size + 1 := by rw [hw1]; simp
  have hb1 := on hb0 z1
  have c_0 : w1.cell? ⟨w.heap.size, 0, none⟩ = some (.string x.1) := by rw [hw1]; exact box_cell (Below.refl _ _) rfl
  have c_1 : w1.cell? ⟨w.heap.size, 1, none⟩ = some (.int .i64 x.2.1) := by rw [hw1]; exact box_cell (Below.refl _ _) rfl
  have c_2 : w1.cell? ⟨w.heap.size, 2, none⟩ = some (.int .i64 x.2.2.1) := by rw [hw1]; exact box_cell (Below.refl _ _) rfl
  have c_3 : w1.cell? ⟨w.heap.size, 3, none⟩ = some (.slice ub3 un3 uc3) := by rw [hw1]; exact box_cell (Below.refl _ _) rfl
  have raw1_c_0 := c_0
  have raw1_c_1 := c_1
  have raw1_c_2 := c_2
  have raw1_c_3 := c_3
  rw [hw1] at raw1_c_0 raw1_c_1 raw1_c_2 raw1_c_3
  obtain ⟨w2, hw2⟩ : ∃ W, W = w1.alloc (.cells #[.string y.1, .int .i64 y.2.1, .int .i64 y.2.2.1, .slice vb3 vn3 vc3] 101) := ⟨_, rfl⟩
  have z2 : Below w1.heap.size w1 w2 := by rw [hw2]; exact (Below.refl _ _).alloc (Nat.le_refl _) _
  have s2 : w2.heap.size = w1.heap.size + 1 := by rw [hw2]; simp
  have hb2 := on hb1 z2
  replace c_0 := (z2.cell (p := ⟨w.heap.size, 0, none⟩) (by simp only []; omega)).trans c_0
  replace c_1 := (z2.cell (p := ⟨w.heap.size, 1, none⟩) (by simp only []; omega)).trans c_1
  replace c_2 := (z2.cell (p := ⟨w.heap.size, 2, none⟩) (by simp only []; omega)).trans c_2
  replace c_3 := (z2.cell (p := ⟨w.heap.size, 3, none⟩) (by simp only []; omega)).trans c_3
  have e2 : w1.heap.size = w.heap.size + 1 := by omega
  have d_0 : w2.cell? ⟨w1.heap.size, 0, none⟩ = some (.string y.1) := by rw [hw2]; exact box_cell (Below.refl _ _) rfl
  have d_1 : w2.cell? ⟨w1.heap.size, 1, none⟩ = some (.int .i64 y.2.1) := by rw [hw2]; exact box_cell (Below.refl _ _) rfl
  have d_2 : w2.cell? ⟨w1.heap.size, 2, none⟩ = some (.int .i64 y.2.2.1) := by rw [hw2]; exact box_cell (Below.refl _ _) rfl
  have d_3 : w2.cell? ⟨w1.heap.size, 3, none⟩ = some (.slice vb3 vn3 vc3) := by rw [hw2]; exact box_cell (Below.refl _ _) rfl
  rw [e2] at d_0 d_1 d_2 d_3
  have raw2_c_0 := c_0
  have raw2_c_1 := c_1
  have raw2_c_2 := c_2
  have raw2_c_3 := c_3
  have raw2_d_0 := d_0
  have raw2_d_1 := d_1
  have raw2_d_2 := d_2
  have raw2_d_3 := d_3
  rw [hw2, hw1] at raw2_c_0 raw2_c_1 raw2_c_2 raw2_c_3 raw2_d_0 raw2_d_1 raw2_d_2 raw2_d_3
  have t0 := rS_sl g3
  have t1 := rS_sl k3
  have hl := t0.len
  have hl' := t1.len
  have hn := t0.small
  have hn' := t1.small
  clear g0 g1 g2 k0 k1 k2 t0 t1
  by_cases e0 : x.1 = y.1
  case neg =>
    have HE := Lib.hid (show decide (x = y) = false by simp only [decide_eq_false_iff_not]; intro e; exact e0 (by rw [e]))
    have hne := bytes_ne e0
    clear e0 hl hl'
    go_wp2_with fail
    go_ret
    exact ⟨ret_bool HE.out.symm, by first | exact hb2 | (rw [hw2, hw1] at hb2; exact hb2)⟩
  have q0 : (x.1.toList == y.1.toList) = true := by rw [e0]; simp
  have E0 := Lib.hid e0
  clear e0
  by_cases e1 : x.2.1 = y.2.1
  case neg =>
    have HE := Lib.hid (show decide (x = y) = false by simp only [decide_eq_false_iff_not]; intro e; exact e1 (by rw [e]))
    have hne := bne_iff_ne.2 e1
    clear e1 hl hl'
    go_wp2_with fail
    go_ret
    exact ⟨ret_bool HE.out.symm, by first | exact hb2 | (rw [hw2, hw1] at hb2; exact hb2)⟩
  have q1 : (x.2.1 != y.2.1) = false := by rw [e1]; simp
  have E1 := Lib.hid e1
  clear e1
  by_cases e2 : x.2.2.1 = y.2.2.1
  case neg =>
    have HE := Lib.hid (show decide (x = y) = false by simp only [decide_eq_false_iff_not]; intro e; exact e2 (by rw [e]))
    have hne := bne_iff_ne.2 e2
    clear e2 hl hl'
    go_wp2_with fail
    go_ret
    exact ⟨ret_bool HE.out.symm, by first | exact hb2 | (rw [hw2, hw1] at hb2; exact hb2)⟩
  have q2 : (x.2.2.1 != y.2.2.1) = false := by rw [e2]; simp
  have E2 := Lib.hid e2
  clear e2
  by_cases hnm : un3 = vn3
  case neg =>
    have HE := Lib.hid (show decide (x = y) = false by
      simp only [decide_eq_false_iff_not]; rintro rfl; omega)
    have hne : ((un3 : Int) != (vn3 : Int)) = true := by rw [bne_iff_ne]; omega
    clear hl hl'
    go_wp2_with fail
    go_ret
    exact ⟨ret_bool HE.out.symm, by first | exact hb2 | (rw [hw2, hw1] at hb2; exact hb2)⟩
  subst hnm
  go_wp2_with fail
  rw [← hw1]
  rw [← hw2]
  clear hw2 hw1
  clear raw1_c_0 raw1_c_1 raw1_c_2 raw1_c_3 raw2_c_0 raw2_c_1 raw2_c_2 raw2_c_3 raw2_d_0 raw2_d_1 raw2_d_2 raw2_d_3
  clear q0 q1 q2
  have HX : Hid (x.2.2.2 = y.2.2.2 → decide (x = y) = true) := fun e => by
    simp only [decide_eq_true_eq]; exact Prod.ext E0.out (Prod.ext E1.out (Prod.ext E2.out e))
  have HY : Hid (x.2.2.2 ≠ y.2.2.2 → decide (x = y) = false) := fun e => by
    simp only [decide_eq_false_iff_not]; intro e'; exact e (by rw [e'])
  clear E0 E1 E2
  obtain ⟨xs, hxs⟩ : ∃ l, x.2.2.2 = l := ⟨_, rfl⟩
  obtain ⟨ys, hys⟩ : ∃ l, y.2.2.2 = l := ⟨_, rfl⟩
  rw [hxs] at HX HY g3 hl
  rw [hys] at HX HY k3 hl'
  clear hxs hys
  go_loopw [5, 6, 7, 8] (fun i _ _ _ wr => ∃ j : Nat, j ≤ un3 ∧ i = .int .i64 j ∧ Hid (xs.take j = ys.take j) ∧ Below w2.heap.size w2 wr) (fun i _ _ _ _ => un3 - (intOf i).toNat)
  case atStart => exact ⟨0, Nat.zero_le _, rfl, rfl, Below.refl _ _⟩
  case round =>
    obtain ⟨j, hj, rfl, hE, hdr⟩ := hrel
    obtain ⟨wo, rfl⟩ : ∃ W, W = wr := ⟨_, rfl⟩
    have hlc := hdr
    have s3 := hdr.size
    have hb3 := on hb2 hdr
    replace c_0 := (hdr.cell (p := ⟨w.heap.size, 0, none⟩) (by simp only []; omega)).trans c_0
    replace c_1 := (hdr.cell (p := ⟨w.heap.size, 1, none⟩) (by simp only []; omega)).trans c_1
    replace c_2 := (hdr.cell (p := ⟨w.heap.size, 2, none⟩) (by simp only []; omega)).trans c_2
    replace c_3 := (hdr.cell (p := ⟨w.heap.size, 3, none⟩) (by simp only []; omega)).trans c_3
    replace d_0 := (hdr.cell (p := ⟨w.heap.size + 1, 0, none⟩) (by simp only []; omega)).trans d_0
    replace d_1 := (hdr.cell (p := ⟨w.heap.size + 1, 1, none⟩) (by simp only []; omega)).trans d_1
    replace d_2 := (hdr.cell (p := ⟨w.heap.size + 1, 2, none⟩) (by simp only []; omega)).trans d_2
    replace d_3 := (hdr.cell (p := ⟨w.heap.size + 1, 3, none⟩) (by simp only []; omega)).trans d_3
    have s0 := rS_sl (rGl.mono g3 hb3)
    have t0 := rS_sl (rGl.mono k3 hb3)
    by_cases hlt : j < un3
    · obtain ⟨b1, o1, cs, x, rfl, hx, hr, hc⟩ := s0.at hlt
      obtain ⟨b2, o2, ds, y, rfl, hy, hr', hd⟩ := t0.at hlt
      obtain ⟨pb0, pn0, pc0, pb1, pn1, pc1, pb2, pn2, pc2, rfl, g0, g1, g2⟩ := rGs_open hr
      obtain ⟨qb0, qn0, qc0, qb1, qn1, qc1, qb2, qn2, qc2, rfl, k0, k1, k2⟩ := rGs_open hr'
      have e0 : wo.cell? ⟨b1, o1 + j * 3, none⟩ = some (.slice pb0 pn0 pc0) := by have h9 := hc 0 _ rfl; rw [← Nat.add_assoc] at h9; exact h9
      have e1 : wo.cell? ⟨b1, o1 + j * 3 + 1, none⟩ = some (.slice pb1 pn1 pc1) := by have h9 := hc 1 _ rfl; rw [← Nat.add_assoc] at h9; exact h9
      have e2 : wo.cell? ⟨b1, o1 + j * 3 + 2, none⟩ = some (.slice pb2 pn2 pc2) := by have h9 := hc 2 _ rfl; rw [← Nat.add_assoc] at h9; exact h9
      have f0 : wo.cell? ⟨b2, o2 + j * 3, none⟩ = some (.slice qb0 qn0 qc0) := by have h9 := hd 0 _ rfl; rw [← Nat.add_assoc] at h9; exact h9
      have f1 : wo.cell? ⟨b2, o2 + j * 3 + 1, none⟩ = some (.slice qb1 qn1 qc1) := by have h9 := hd 1 _ rfl; rw [← Nat.add_assoc] at h9; exact h9
      have f2 : wo.cell? ⟨b2, o2 + j * 3 + 2, none⟩ = some (.slice qb2 qn2 qc2) := by have h9 := hd 2 _ rfl; rw [← Nat.add_assoc] at h9; exact h9
      clear hc hd s0 t0 hr hr'
      have lb1 : b1 < wo.heap.size := cell_lt e0
      have lb2 : b2 < wo.heap.size := cell_lt f0
      obtain ⟨w4, hw4⟩ : ∃ W, W = wo.alloc (.cells #[.slice pb0 pn0 pc0, .slice pb1 pn1 pc1, .slice pb2 pn2 pc2] 144) := ⟨_, rfl⟩
      have z4 : Below wo.heap.size wo w4 := by rw [hw4]; exact (Below.refl _ _).alloc (Nat.le_refl _) _
      have s4 : w4.heap.size = wo.heap.size + 1 := by rw [hw4]; simp
      have hb4 := on hb3 z4
      have old4_c_0 := c_0
      have old4_c_1 := c_1
      have old4_c_2 := c_2
      have old4_c_3 := c_3
      have old4_d_0 := d_0
      have old4_d_1 := d_1
      have old4_d_2 := d_2
      have old4_d_3 := d_3
      have old4_e0 := e0
      have old4_e1 := e1
      have old4_e2 := e2
      have old4_f0 := f0
      have old4_f1 := f1
      have old4_f2 := f2
      replace c_0 := (z4.cell (p := ⟨w.heap.size, 0, none⟩) (by simp only []; omega)).trans c_0
      replace c_1 := (z4.cell (p := ⟨w.heap.size, 1, none⟩) (by simp only []; omega)).trans c_1
      replace c_2 := (z4.cell (p := ⟨w.heap.size, 2, none⟩) (by simp only []; omega)).trans c_2
      replace c_3 := (z4.cell (p := ⟨w.heap.size, 3, none⟩) (by simp only []; omega)).trans c_3
      replace d_0 := (z4.cell (p := ⟨w.heap.size + 1, 0, none⟩) (by simp only []; omega)).trans d_0
      replace d_1 := (z4.cell (p := ⟨w.heap.size + 1, 1, none⟩) (by simp only []; omega)).trans d_1
      replace d_2 := (z4.cell (p := ⟨w.heap.size + 1, 2, none⟩) (by simp only []; omega)).trans d_2
      replace d_3 := (z4.cell (p := ⟨w.heap.size + 1, 3, none⟩) (by simp only []; omega)).trans d_3
      replace hlc := on hlc z4
      replace e0 := (z4.cell (p := ⟨b1, o1 + j * 3, none⟩) (by simp only []; omega)).trans e0
      replace e1 := (z4.cell (p := ⟨b1, o1 + j * 3 + 1, none⟩) (by simp only []; omega)).trans e1
      replace e2 := (z4.cell (p := ⟨b1, o1 + j * 3 + 2, none⟩) (by simp only []; omega)).trans e2
      replace f0 := (z4.cell (p := ⟨b2, o2 + j * 3, none⟩) (by simp only []; omega)).trans f0
      replace f1 := (z4.cell (p := ⟨b2, o2 + j * 3 + 1, none⟩) (by simp only []; omega)).trans f1
      replace f2 := (z4.cell (p := ⟨b2, o2 + j * 3 + 2, none⟩) (by simp only []; omega)).trans f2
      replace g0 := rI.mono g0 z4
      replace k0 := rI.mono k0 z4
      replace g2 := rI.mono g2 z4
      replace k2 := rI.mono k2 z4
      replace g1 := rII.mono g1 z4
      replace k1 := rII.mono k1 z4
      have p_0 : w4.cell? ⟨wo.heap.size, 0, none⟩ = some (.slice pb0 pn0 pc0) := by rw [hw4]; exact box_cell (Below.refl _ _) rfl
      have p_1 : w4.cell? ⟨wo.heap.size, 1, none⟩ = some (.slice pb1 pn1 pc1) := by rw [hw4]; exact box_cell (Below.refl _ _) rfl
      have p_2 : w4.cell? ⟨wo.heap.size, 2, none⟩ = some (.slice pb2 pn2 pc2) := by rw [hw4]; exact box_cell (Below.refl _ _) rfl
      have raw4_c_0 := c_0
      have raw4_c_1 := c_1
      have raw4_c_2 := c_2
      have raw4_c_3 := c_3
      have raw4_d_0 := d_0
      have raw4_d_1 := d_1
      have raw4_d_2 := d_2
      have raw4_d_3 := d_3
      have raw4_e0 := e0
      have raw4_e1 := e1
      have raw4_e2 := e2
      have raw4_f0 := f0
      have raw4_f1 := f1
      have raw4_f2 := f2
      have raw4_p_0 := p_0
      have raw4_p_1 := p_1
      have raw4_p_2 := p_2
      rw [hw4] at raw4_c_0 raw4_c_1 raw4_c_2 raw4_c_3 raw4_d_0 raw4_d_1 raw4_d_2 raw4_d_3 raw4_e0 raw4_e1 raw4_e2 raw4_f0 raw4_f1 raw4_f2 raw4_p_0 raw4_p_1 raw4_p_2
      obtain ⟨w5, hw5⟩ : ∃ W, W = w4.alloc (.cells #[.slice qb0 qn0 qc0, .slice qb1 qn1 qc1, .slice qb2 qn2 qc2] 144) := ⟨_, rfl⟩
      have z5 : Below w4.heap.size w4 w5 := by rw [hw5]; exact (Below.refl _ _).alloc (Nat.le_refl _) _
      have s5 : w5.heap.size = w4.heap.size + 1 := by rw [hw5]; simp
      have hb5 := on hb4 z5
      replace c_0 := (z5.cell (p := ⟨w.heap.size, 0, none⟩) (by simp only []; omega)).trans c_0
      replace c_1 := (z5.cell (p := ⟨w.heap.size, 1, none⟩) (by simp only []; omega)).trans c_1
      replace c_2 := (z5.cell (p := ⟨w.heap.size, 2, none⟩) (by simp only []; omega)).trans c_2
      replace c_3 := (z5.cell (p := ⟨w.heap.size, 3, none⟩) (by simp only []; omega)).trans c_3
      replace d_0 := (z5.cell (p := ⟨w.heap.size + 1, 0, none⟩) (by simp only []; omega)).trans d_0
      replace d_1 := (z5.cell (p := ⟨w.heap.size + 1, 1, none⟩) (by simp only []; omega)).trans d_1
      replace d_2 := (z5.cell (p := ⟨w.heap.size + 1, 2, none⟩) (by simp only []; omega)).trans d_2
      replace d_3 := (z5.cell (p := ⟨w.heap.size + 1, 3, none⟩) (by simp only []; omega)).trans d_3
      replace hlc := on hlc z5
      replace e0 := (z5.cell (p := ⟨b1, o1 + j * 3, none⟩) (by simp only []; omega)).trans e0
      replace e1 := (z5.cell (p := ⟨b1, o1 + j * 3 + 1, none⟩) (by simp only []; omega)).trans e1
      replace e2 := (z5.cell (p := ⟨b1, o1 + j * 3 + 2, none⟩) (by simp only []; omega)).trans e2
      replace f0 := (z5.cell (p := ⟨b2, o2 + j * 3, none⟩) (by simp only []; omega)).trans f0
      replace f1 := (z5.cell (p := ⟨b2, o2 + j * 3 + 1, none⟩) (by simp only []; omega)).trans f1
      replace f2 := (z5.cell (p := ⟨b2, o2 + j * 3 + 2, none⟩) (by simp only []; omega)).trans f2
      replace g0 := rI.mono g0 z5
      replace k0 := rI.mono k0 z5
      replace g2 := rI.mono g2 z5
      replace k2 := rI.mono k2 z5
      replace g1 := rII.mono g1 z5
      replace k1 := rII.mono k1 z5
      replace p_0 := (z5.cell (p := ⟨wo.heap.size, 0, none⟩) (by simp only []; omega)).trans p_0
      replace p_1 := (z5.cell (p := ⟨wo.heap.size, 1, none⟩) (by simp only []; omega)).trans p_1
      replace p_2 := (z5.cell (p := ⟨wo.heap.size, 2, none⟩) (by simp only []; omega)).trans p_2
      have e5 : w4.heap.size = wo.heap.size + 1 := by omega
      have q_0 : w5.cell? ⟨w4.heap.size, 0, none⟩ = some (.slice qb0 qn0 qc0) := by rw [hw5]; exact box_cell (Below.refl _ _) rfl
      have q_1 : w5.cell? ⟨w4.heap.size, 1, none⟩ = some (.slice qb1 qn1 qc1) := by rw [hw5]; exact box_cell (Below.refl _ _) rfl
      have q_2 : w5.cell? ⟨w4.heap.size, 2, none⟩ = some (.slice qb2 qn2 qc2) := by rw [hw5]; exact box_cell (Below.refl _ _) rfl
      rw [e5] at q_0 q_1 q_2
      have raw5_c_0 := c_0
      have raw5_c_1 := c_1
      have raw5_c_2 := c_2
      have raw5_c_3 := c_3
      have raw5_d_0 := d_0
      have raw5_d_1 := d_1
      have raw5_d_2 := d_2
      have raw5_d_3 := d_3
      have raw5_e0 := e0
      have raw5_e1 := e1
      have raw5_e2 := e2
      have raw5_f0 := f0
      have raw5_f1 := f1
      have raw5_f2 := f2
      have raw5_p_0 := p_0
      have raw5_p_1 := p_1
      have raw5_p_2 := p_2
      have raw5_q_0 := q_0
      have raw5_q_1 := q_1
      have raw5_q_2 := q_2
      rw [hw5, hw4] at raw5_c_0 raw5_c_1 raw5_c_2 raw5_c_3 raw5_d_0 raw5_d_1 raw5_d_2 raw5_d_3 raw5_e0 raw5_e1 raw5_e2 raw5_f0 raw5_f1 raw5_f2 raw5_p_0 raw5_p_1 raw5_p_2 raw5_q_0 raw5_q_1 raw5_q_2
      have HN : Hid (x ≠ y → decide (_ = _) = false) := fun hxy => HY.out (by intro e; subst e; exact hxy (Option.some.inj (hx.out.symm.trans hy.out)))
      have HS : Hid (x = y → xs.take (j + 1) = ys.take (j + 1)) := fun hxy => by rw [take_snoc' xs j x hx.out, take_snoc' ys j y hy.out, hE.out, hxy]
      clear hx hy hE
      go_wp2_with fail
      rw [← hw4]
      rw [← hw5]
      clear hw5 hw4
      clear old4_c_0 old4_c_1 old4_c_2 old4_c_3 old4_d_0 old4_d_1 old4_d_2 old4_d_3 old4_e0 old4_e1 old4_e2 old4_f0 old4_f1 old4_f2 raw4_c_0 raw4_c_1 raw4_c_2 raw4_c_3 raw4_d_0 raw4_d_1 raw4_d_2 raw4_d_3 raw4_e0 raw4_e1 raw4_e2 raw4_f0 raw4_f1 raw4_f2 raw4_p_0 raw4_p_1 raw4_p_2 raw5_c_0 raw5_c_1 raw5_c_2 raw5_c_3 raw5_d_0 raw5_d_1 raw5_d_2 raw5_d_3 raw5_e0 raw5_e1 raw5_e2 raw5_f0 raw5_f1 raw5_f2 raw5_p_0 raw5_p_1 raw5_p_2 raw5_q_0 raw5_q_1 raw5_q_2
      refine (cmp_K _ _ x.1 y.1 _ g0 k0).mono ?_
      rintro e w6 ⟨rfl, z6⟩
      have s7 := z6.size
      have hb7 := on hb5 z6
      replace c_0 := (z6.cell (p := ⟨w.heap.size, 0, none⟩) (by simp only []; omega)).trans c_0
      replace c_1 := (z6.cell (p := ⟨w.heap.size, 1, none⟩) (by simp only []; omega)).trans c_1
      replace c_2 := (z6.cell (p := ⟨w.heap.size, 2, none⟩) (by simp only []; omega)).trans c_2
      replace c_3 := (z6.cell (p := ⟨w.heap.size, 3, none⟩) (by simp only []; omega)).trans c_3
      replace d_0 := (z6.cell (p := ⟨w.heap.size + 1, 0, none⟩) (by simp only []; omega)).trans d_0
      replace d_1 := (z6.cell (p := ⟨w.heap.size + 1, 1, none⟩) (by simp only []; omega)).trans d_1
      replace d_2 := (z6.cell (p := ⟨w.heap.size + 1, 2, none⟩) (by simp only []; omega)).trans d_2
      replace d_3 := (z6.cell (p := ⟨w.heap.size + 1, 3, none⟩) (by simp only []; omega)).trans d_3
      replace hlc := on hlc z6
      replace e0 := (z6.cell (p := ⟨b1, o1 + j * 3, none⟩) (by simp only []; omega)).trans e0
      replace e1 := (z6.cell (p := ⟨b1, o1 + j * 3 + 1, none⟩) (by simp only []; omega)).trans e1
      replace e2 := (z6.cell (p := ⟨b1, o1 + j * 3 + 2, none⟩) (by simp only []; omega)).trans e2
      replace f0 := (z6.cell (p := ⟨b2, o2 + j * 3, none⟩) (by simp only []; omega)).trans f0
      replace f1 := (z6.cell (p := ⟨b2, o2 + j * 3 + 1, none⟩) (by simp only []; omega)).trans f1
      replace f2 := (z6.cell (p := ⟨b2, o2 + j * 3 + 2, none⟩) (by simp only []; omega)).trans f2
      replace g0 := rI.mono g0 z6
      replace k0 := rI.mono k0 z6
      replace g2 := rI.mono g2 z6
      replace k2 := rI.mono k2 z6
      replace g1 := rII.mono g1 z6
      replace k1 := rII.mono k1 z6
      replace p_0 := (z6.cell (p := ⟨wo.heap.size, 0, none⟩) (by simp only []; omega)).trans p_0
      replace p_1 := (z6.cell (p := ⟨wo.heap.size, 1, none⟩) (by simp only []; omega)).trans p_1
      replace p_2 := (z6.cell (p := ⟨wo.heap.size, 2, none⟩) (by simp only []; omega)).trans p_2
      replace q_0 := (z6.cell (p := ⟨wo.heap.size + 1, 0, none⟩) (by simp only []; omega)).trans q_0
      replace q_1 := (z6.cell (p := ⟨wo.heap.size + 1, 1, none⟩) (by simp only []; omega)).trans q_1
      replace q_2 := (z6.cell (p := ⟨wo.heap.size + 1, 2, none⟩) (by simp only []; omega)).trans q_2
      by_cases h1 : x.1 = y.1
      case neg =>
        have HE := Lib.hid (HN.out (by intro e; exact h1 (by rw [e])))
        have hne : (cmpRows x.1 y.1 != 0) = true := bne_iff_ne.2 (fun h => h1 ((cmpRows_zero _ _).1 h))
        clear h1
        go_wp2_with fail
        go_ret
        exact ⟨ret_bool HE.out.symm, hb7⟩
      rw [(cmpRows_zero _ _).2 h1]
      have H1 := Lib.hid h1
      clear h1
      go_wp2_with fail
      refine (cmp_K _ _ x.2.2 y.2.2 _ g2 k2).mono ?_
      rintro e w8 ⟨rfl, z8⟩
      have s9 := z8.size
      have hb9 := on hb7 z8
      replace c_0 := (z8.cell (p := ⟨w.heap.size, 0, none⟩) (by simp only []; omega)).trans c_0
      replace c_1 := (z8.cell (p := ⟨w.heap.size, 1, none⟩) (by simp only []; omega)).trans c_1
      replace c_2 := (z8.cell (p := ⟨w.heap.size, 2, none⟩) (by simp only []; omega)).trans c_2
      replace c_3 := (z8.cell (p := ⟨w.heap.size, 3, none⟩) (by simp only []; omega)).trans c_3
      replace d_0 := (z8.cell (p := ⟨w.heap.size + 1, 0, none⟩) (by simp only []; omega)).trans d_0
      replace d_1 := (z8.cell (p := ⟨w.heap.size + 1, 1, none⟩) (by simp only []; omega)).trans d_1
      replace d_2 := (z8.cell (p := ⟨w.heap.size + 1, 2, none⟩) (by simp only []; omega)).trans d_2
      replace d_3 := (z8.cell (p := ⟨w.heap.size + 1, 3, none⟩) (by simp only []; omega)).trans d_3
      replace hlc := on hlc z8
      replace e0 := (z8.cell (p := ⟨b1, o1 + j * 3, none⟩) (by simp only []; omega)).trans e0
      replace e1 := (z8.cell (p := ⟨b1, o1 + j * 3 + 1, none⟩) (by simp only []; omega)).trans e1
      replace e2 := (z8.cell (p := ⟨b1, o1 + j * 3 + 2, none⟩) (by simp only []; omega)).trans e2
      replace f0 := (z8.cell (p := ⟨b2, o2 + j * 3, none⟩) (by simp only []; omega)).trans f0
      replace f1 := (z8.cell (p := ⟨b2, o2 + j * 3 + 1, none⟩) (by simp only []; omega)).trans f1
      replace f2 := (z8.cell (p := ⟨b2, o2 + j * 3 + 2, none⟩) (by simp only []; omega)).trans f2
      replace g0 := rI.mono g0 z8
      replace k0 := rI.mono k0 z8
      replace g2 := rI.mono g2 z8
      replace k2 := rI.mono k2 z8
      replace g1 := rII.mono g1 z8
      replace k1 := rII.mono k1 z8
      replace p_0 := (z8.cell (p := ⟨wo.heap.size, 0, none⟩) (by simp only []; omega)).trans p_0
      replace p_1 := (z8.cell (p := ⟨wo.heap.size, 1, none⟩) (by simp only []; omega)).trans p_1
      replace p_2 := (z8.cell (p := ⟨wo.heap.size, 2, none⟩) (by simp only []; omega)).trans p_2
      replace q_0 := (z8.cell (p := ⟨wo.heap.size + 1, 0, none⟩) (by simp only []; omega)).trans q_0
      replace q_1 := (z8.cell (p := ⟨wo.heap.size + 1, 1, none⟩) (by simp only []; omega)).trans q_1
      replace q_2 := (z8.cell (p := ⟨wo.heap.size + 1, 2, none⟩) (by simp only []; omega)).trans q_2
      by_cases h3 : x.2.2 = y.2.2
      case neg =>
        have HE := Lib.hid (HN.out (by intro e; exact h3 (by rw [e])))
        have hne : (cmpRows x.2.2 y.2.2 != 0) = true := bne_iff_ne.2 (fun h => h3 ((cmpRows_zero _ _).1 h))
        clear h3
        go_wp2_with fail
        go_ret
        exact ⟨ret_bool HE.out.symm, hb9⟩
      rw [(cmpRows_zero _ _).2 h3]
      have H3 := Lib.hid h3
      clear h3
      have s1 := rS_sl g1
      have t1 := rS_sl k1
      have m1 := s1.len
      have m2 := t1.len
      have m3 := s1.small
      have m4 := t1.small
      by_cases hm : pn1 = qn1
      case neg =>
        have HE := Lib.hid (HN.out (by rintro rfl; omega))
        have hne : ((pn1 : Int) != (qn1 : Int)) = true := by rw [bne_iff_ne]; omega
        clear s1 t1 m1 m2
        go_wp2_with fail
        go_ret
        exact ⟨ret_bool HE.out.symm, hb9⟩
      subst hm
      obtain ⟨xs', hxs⟩ : ∃ l, x.2.1 = l := ⟨_, rfl⟩
      obtain ⟨ys', hys⟩ : ∃ l, y.2.1 = l := ⟨_, rfl⟩
      have HN' : Hid (xs' ≠ ys' → _) := fun h => HN.out (by intro e; subst e; exact h (hxs.symm.trans hys))
      have HS' : Hid (xs' = ys' → xs.take (j + 1) = ys.take (j + 1)) := fun h => HS.out (Prod.ext H1.out (Prod.ext (hxs.trans (h.trans hys.symm)) H3.out))
      rw [hxs] at s1 m1
      rw [hys] at t1 m2
      clear hxs hys HN HS H1 H3 g0 k0 g1 k1 g2 k2
      go_wp2_with fail
      go_loopw [8] (fun k wr => ∃ i : Nat, i ≤ pn1 ∧ k = .int .i64 i ∧ Hid (xs'.take i = ys'.take i) ∧ Drew w8 wr) (fun k _ => pn1 - (intOf k).toNat)
      case atStart => exact ⟨0, Nat.zero_le _, rfl, rfl, Drew.refl _⟩
      case round =>
        obtain ⟨i, hi, rfl, hE, hdq⟩ := hrel
        have hdq' := hdq
        replace hdq' : Below w8.heap.size w8 wr := hdq'.below _
        have s10 := hdq'.size
        have hb10 := on hb9 hdq'
        replace c_0 := (hdq'.cell (p := ⟨w.heap.size, 0, none⟩) (by simp only []; omega)).trans c_0
        replace c_1 := (hdq'.cell (p := ⟨w.heap.size, 1, none⟩) (by simp only []; omega)).trans c_1
        replace c_2 := (hdq'.cell (p := ⟨w.heap.size, 2, none⟩) (by simp only []; omega)).trans c_2
        replace c_3 := (hdq'.cell (p := ⟨w.heap.size, 3, none⟩) (by simp only []; omega)).trans c_3
        replace d_0 := (hdq'.cell (p := ⟨w.heap.size + 1, 0, none⟩) (by simp only []; omega)).trans d_0
        replace d_1 := (hdq'.cell (p := ⟨w.heap.size + 1, 1, none⟩) (by simp only []; omega)).trans d_1
        replace d_2 := (hdq'.cell (p := ⟨w.heap.size + 1, 2, none⟩) (by simp only []; omega)).trans d_2
        replace d_3 := (hdq'.cell (p := ⟨w.heap.size + 1, 3, none⟩) (by simp only []; omega)).trans d_3
        replace hlc := on hlc hdq'
        replace e0 := (hdq'.cell (p := ⟨b1, o1 + j * 3, none⟩) (by simp only []; omega)).trans e0
        replace e1 := (hdq'.cell (p := ⟨b1, o1 + j * 3 + 1, none⟩) (by simp only []; omega)).trans e1
        replace e2 := (hdq'.cell (p := ⟨b1, o1 + j * 3 + 2, none⟩) (by simp only []; omega)).trans e2
        replace f0 := (hdq'.cell (p := ⟨b2, o2 + j * 3, none⟩) (by simp only []; omega)).trans f0
        replace f1 := (hdq'.cell (p := ⟨b2, o2 + j * 3 + 1, none⟩) (by simp only []; omega)).trans f1
        replace f2 := (hdq'.cell (p := ⟨b2, o2 + j * 3 + 2, none⟩) (by simp only []; omega)).trans f2
        replace p_0 := (hdq'.cell (p := ⟨wo.heap.size, 0, none⟩) (by simp only []; omega)).trans p_0
        replace p_1 := (hdq'.cell (p := ⟨wo.heap.size, 1, none⟩) (by simp only []; omega)).trans p_1
        replace p_2 := (hdq'.cell (p := ⟨wo.heap.size, 2, none⟩) (by simp only []; omega)).trans p_2
        replace q_0 := (hdq'.cell (p := ⟨wo.heap.size + 1, 0, none⟩) (by simp only []; omega)).trans q_0
        replace q_1 := (hdq'.cell (p := ⟨wo.heap.size + 1, 1, none⟩) (by simp only []; omega)).trans q_1
        replace q_2 := (hdq'.cell (p := ⟨wo.heap.size + 1, 2, none⟩) (by simp only []; omega)).trans q_2
        replace s1 := s1.below hdq'
        replace t1 := t1.below hdq'
        by_cases hlq : i < pn1
        · obtain ⟨b3, o3, r1, m1', q1, x', rfl, hc, hx, hi1, _⟩ := s1.row hlq
          obtain ⟨b4, o4, r2, m2', q2, y', rfl, hc', hy, hi2, _⟩ := t1.row hlq
          have hcall := fun q => cmp_spec r1 r2 m1' m2' q1 q2 x' y' (wr.drewN q) (hi1.drewN q) (hi2.drewN q)
          by_cases hxy : x' = y'
          · have HE := Lib.hid (show xs'.take (i + 1) = ys'.take (i + 1) by rw [take_snoc' xs' i x' hx.out, take_snoc' ys' i y' hy.out, hE.out, hxy])
            rw [(cmpRows_zero x' y').2 hxy] at hcall
            have HC := Lib.hid hcall
            clear s1 t1 m1 m2 hi1 hi2 hxy hcall hx hy hE
            go_wp2_with fail
            go_quiet ((go_at_call 104; exact quiet_drew (HC.out _)))
            go_wp2_with fail
            go_roundw
            case rel => exact ⟨i + 1, by omega, by go_num, HE.out, hdq.step _⟩
            case measure => simp [intOf]; omega
          · have HE := Lib.hid (HN'.out (by
              intro e; subst e; exact hxy (Option.some.inj (hx.out.symm.trans hy.out))))
            obtain ⟨p, hp⟩ : ∃ p, p = cmpRows x' y' := ⟨_, rfl⟩
            rw [← hp] at hcall
            have hne : (p != 0) = true := bne_iff_ne.2 (fun h => hxy ((cmpRows_zero _ _).1 (hp.symm.trans h)))
            have HC := Lib.hid hcall
            clear s1 t1 m1 m2 hi1 hi2 hxy hcall hp hx hy
            go_wp2_with fail
            go_quiet ((go_at_call 104; exact quiet_drew (HC.out _)))
            go_wp2_with fail
            go_ret
            exact ⟨ret_bool HE.out.symm, onD hb10 ⟨_, rfl⟩⟩
        · have HE := Lib.hid (HS'.out (by
            have e := hE.out
            rwa [List.take_of_length_le (by omega), List.take_of_length_le (by omega)] at e))
          clear s1 t1 m1 m2 hE
          go_wp2_with fail
          go_roundw
          case rel => exact ⟨j + 1, by omega, by go_num, HE.out, hlc⟩
          case measure => simp [intOf]; omega
    · have e := hE.out
      rw [List.take_of_length_le (by omega), List.take_of_length_le (by omega)] at e
      have HE := Lib.hid (HX.out e)
      clear s0 t0 hl hl' e
      go_wp2_with fail
      go_ret
      exact ⟨ret_bool HE.out.symm, hb3⟩

end Go.Proofs.Ytbkoddikfpkocaa

/- Plain: groups of a table, degrees. -/
namespace Go.Proofs.Ytbkoddikfpkocaa
open Go.RowKit
set_option linter.unusedVariables false
set_option linter.unusedSimpArgs false

theorem colsFrom_len' {n : Int} : ∀ {p : Int} {xs : List Int}, -1 ≤ p → p ≤ n - 1 → colsFrom n p xs = true → (xs.length : Int) ≤ n - 1 - p
  | p, [], h1, h2, _ => by simp; omega
  | p, v :: t, h1, h2, h => by
    simp only [colsFrom, Bool.and_eq_true, decide_eq_true_eq, betw] at h
    have := colsFrom_len' (p := v) (xs := t) (by omega) (by omega) h.2
    simp only [List.length_cons]; omega
theorem colsB_len' {n : Int} {xs : List Int} (hn : 0 ≤ n) (h : colsB n xs = true) : (xs.length : Int) ≤ n := by
  have := colsFrom_len' (n := n) (p := -1) (xs := xs) (by omega) (by omega) h
  omega
/-- Rows at columns. -/
def selRows (rows : List (List Int)) (cs : List Int) : List (List Int) := rows.map (fun r => sel r cs)
theorem selRows_len (rows : List (List Int)) (cs : List Int) : (selRows rows cs).length = rows.length := by simp [selRows]
theorem selRows_step {rows : List (List Int)} {cs r : List Int} {j : Nat} (h : rows[j]? = some r) : selRows (rows.take (j + 1)) cs = selRows (rows.take j) cs ++ [sel r cs] := by
  rw [List.take_add_one, h]; simp [selRows]
theorem selRows_get {rows : List (List Int)} {cs r : List Int} {j : Nat} (h : rows[j]? = some r) : (selRows rows cs)[j]? = some (sel r cs) := by simp [selRows, h]
/-- How often each of some rows stands among rows. -/
def countsOf (gs all : List (List Int)) : List Int := gs.map (fun g => (cntRow g all : Int))
theorem countsOf_len (gs all : List (List Int)) : (countsOf gs all).length = gs.length := by simp [countsOf]
theorem countsOf_step {gs all : List (List Int)} {g : List Int} {j : Nat} (h : gs[j]? = some g) : countsOf (gs.take (j + 1)) all = countsOf (gs.take j) all ++ [(cntRow g all : Int)] := by
  rw [List.take_add_one, h]; simp [countsOf]
theorem cntRow_at {g r : List Int} {all : List (List Int)} {j : Nat} (h : all[j]? = some r) : cntRow g (all.drop j) = (if r = g then 1 else 0) + cntRow g (all.drop (j + 1)) := by
  obtain ⟨h1, rfl⟩ := List.getElem?_eq_some_iff.1 h
  rw [List.drop_eq_getElem_cons h1]
  unfold cntRow
  rw [List.filter_cons]
  by_cases e : all[j] = g <;> simp [e] <;> omega
theorem cntRow_end {g : List Int} {all : List (List Int)} {j : Nat} (h : all.length ≤ j) : cntRow g (all.drop j) = 0 := by
  rw [List.drop_eq_nil_of_le h]; rfl
theorem cntRow_take {g r : List Int} {all : List (List Int)} {j : Nat} (h : all[j]? = some r) : cntRow g (all.take (j + 1)) = cntRow g (all.take j) + (if r = g then 1 else 0) := by
  rw [List.take_add_one, h]
  unfold cntRow
  rw [List.filter_append, List.length_append]
  by_cases e : r = g <;> simp [e]
theorem cntRow_le (g : List Int) (all : List (List Int)) : cntRow g all ≤ all.length := List.length_filter_le _ _
def groups (t : DT) (cs : List Int) : List (List Int) := canon (selRows t.2.2 cs)
/-- GroupCounts. -/
def grpV (t : DT) (cs : List Int) : List (List Int) := if colsT t cs then groups t cs else []
def grpN (t : DT) (cs : List Int) : List Int := if colsT t cs then countsOf (groups t cs) (selRows t.2.2 cs) else []
/-- In descending order. -/
def downS (l : List Int) : List Int := (l.mergeSort (fun x y => decide (x ≤ y))).reverse
theorem downS_len (l : List Int) : (downS l).length = l.length := by simp [downS]
theorem downS_uniq {l s : List Int} (hp : s.Perm l) (hs : s.Pairwise (· ≥ ·)) : s = downS l := by
  refine List.Perm.eq_of_pairwise (le := (· ≥ ·)) (fun a b _ _ h k => Int.le_antisymm k h) hs ?_ (hp.trans ((List.mergeSort_perm l _).symm.trans (List.reverse_perm _).symm))
  unfold downS
  rw [List.pairwise_reverse]
  have := List.pairwise_mergeSort (le := fun x y : Int => decide (x ≤ y)) (by intro a b c; simp; omega) (by intro a b; simp; omega) l
  exact this.imp fun h => by simpa using h
theorem ins_ok {out : List Int} {x : Int} {k : Nat} (hs : out.Pairwise (· ≥ ·)) (hk : k ≤ out.length) (h1 : k = 0 ∨ x ≤ out.getD (k - 1) 0) (h2 : ∀ j, k ≤ j → j < out.length → out.getD j 0 < x) :
    (out.take k ++ [x] ++ out.drop k).Pairwise (· ≥ ·) ∧ (out.take k ++ [x] ++ out.drop k).Perm (out ++ [x]) := by
  have hg : ∀ j (hj : j < out.length), out.getD j 0 = out[j] := fun j hj => by rw [List.getD_eq_getElem?_getD, List.getElem?_eq_getElem hj]; rfl
  have hmono : ∀ i j, i ≤ j → j < out.length → out.getD j 0 ≤ out.getD i 0 := fun i j hij hj => by
    rcases Nat.eq_or_lt_of_le hij with rfl | hlt
    · exact Int.le_refl _
    · rw [hg i (by omega), hg j hj]; exact (List.pairwise_iff_getElem.1 hs) i j (by omega) hj hlt
  constructor
  · rw [List.append_assoc, List.pairwise_append]
    refine ⟨hs.sublist (List.take_sublist _ _), ?_, ?_⟩
    · rw [List.singleton_append, List.pairwise_cons]
      refine ⟨?_, hs.sublist (List.drop_sublist _ _)⟩
      intro y hy
      obtain ⟨j, hj, rfl⟩ := List.mem_iff_getElem.1 hy
      rw [List.length_drop] at hj
      rw [List.getElem_drop, ← hg (k + j) (by omega)]
      have := h2 (k + j) (by omega) (by omega)
      omega
    · intro a ha b hb
      obtain ⟨i, hi, rfl⟩ := List.mem_iff_getElem.1 ha
      rw [List.length_take] at hi
      rw [List.getElem_take, ← hg i (by omega)]
      have hax : x ≤ out.getD i 0 := by
        rcases h1 with h | h
        · omega
        · have := hmono i (k - 1) (by omega) (by omega); omega
      rcases List.mem_append.1 hb with hb | hb
      · simp only [List.mem_singleton] at hb; subst hb; exact hax
      · obtain ⟨j, hj, rfl⟩ := List.mem_iff_getElem.1 hb
        rw [List.length_drop] at hj
        rw [List.getElem_drop, ← hg (k + j) (by omega)]
        have := hmono i (k + j) (by omega) (by omega)
        omega
  · have h9 : (out.take k ++ ([x] ++ out.drop k)).Perm (out.take k ++ (out.drop k ++ [x])) := List.Perm.append_left _ List.perm_append_comm
    rw [List.append_assoc]
    refine h9.trans ?_
    rw [← List.append_assoc, List.take_append_drop]
/-- DegreeSequence. -/
def degSeq (t : DT) (cs : List Int) : List Int := downS (grpN t cs)
/-- The first of a list, 0 if there is none. -/
def headOr (l : List Int) : Int := l.headD 0
theorem headOr_get (l : List Int) : headOr l = l.getD 0 0 := by cases l <;> rfl

end Go.Proofs.Ytbkoddikfpkocaa

/- Contracts: data compared by the program. Written by a program. -/
namespace Go.Proofs.Ytbkoddikfpkocaa
open Go.RowKit
set_option linter.unusedVariables false
set_option linter.unusedSimpArgs false
set_option synthInstance.maxSize 2000
set_option synthInstance.maxHeartbeats 400000

theorem equalInts_K (u v : Value) (xs ys : List Int) (w : World) (h : rI.rep w [u] xs) (h' : rI.rep w [v] ys) :
    Calls Try.prog 141 #[u, v] w fun e w' => e = .returned (.bool (decide (xs = ys))) ∧ Below w.heap.size w w' := by
  obtain ⟨a, cap, rfl, _, _, hi⟩ := rI_open h
  obtain ⟨a', cap', rfl, _, _, hi'⟩ := rI_open h'
  exact (equalInts _ _ _ _ _ _ _ _ _ hi hi').mono fun e w' ⟨h1, h2⟩ => ⟨h1, h2.below _⟩

end Go.Proofs.Ytbkoddikfpkocaa

/- Marks of statistics. Written by a program. -/
namespace Go.Proofs.Ytbkoddikfpkocaa
open Go.RowKit
set_option linter.unusedVariables false
set_option linter.unusedSimpArgs false
set_option synthInstance.maxSize 2000
set_option synthInstance.maxHeartbeats 400000

def cnt_Ts (x : DTs) : Nat := cnt_Gl x.2.2.2
def mk_Ts (k : Int) (x : DTs) : DTs := (x.1, x.2.1, x.2.2.1, mk_Gl k x.2.2.2)
theorem cnt_le_Ts (x : DTs) : cnt_Ts x ≤ 2 * bulk_Ts x := by
  have h3 := cnt_le_Gl x.2.2.2
  simp only [cnt_Ts, bulk_Ts]; omega

set_option maxHeartbeats 1000000 in
theorem mark_Ts (us : List Value) (x : DTs) (k : Int) (lo hi : Nat) (w : World) (h : Own oTs lo hi w us x) (hh : hi ≤ w.heap.size) (k0 : 1 ≤ k) (k1 : k + cnt_Ts x ≤ 1000000000) (hb : bulk_Ts x ≤ 100000000) :
    Calls Try.prog 86 #[.agg us.toArray, .int .i64 k] w fun e w' => e = .returned (.int .i64 (k + cnt_Ts x)) ∧ Own oTs lo hi w' us (mk_Ts k x) ∧ Turn lo hi w w' := by
  obtain ⟨fp, hrep, hfn, hfr⟩ := h
  obtain ⟨c0, d0, p0, q0, rfl, rfl, ⟨rfl, hs0, rfl⟩, ⟨c1, d1, p1, q1, rfl, rfl, ⟨rfl, hs1, rfl⟩, ⟨c2, d2, p2, q2, rfl, rfl, ⟨rfl, hs2, rfl⟩, t3⟩⟩⟩ := hrep
  obtain ⟨a3, n3, rfl⟩ := oS_len t3
  have HN := Lib.hid hfn
  have HFR := Lib.hid hfr
  try simp only [List.nodup_append, List.nil_append, List.append_nil] at hfn
  have hn3 : q2.Nodup := by first | exact hfn | exact hfn.1 | exact hfn.2.1 | exact hfn.2.1.1 | exact hfn.2.1.2.1
  have hlt3 : ∀ p9, p9 ∈ q2 → p9 < w.heap.size := fun p9 hp9 => by have := hfr p9 (by simp [hp9]); omega
  simp only [cnt_Ts, bulk_Ts] at *
  clear hfn hfr
  go_enter Try.func86, Try.ntmps86
  obtain ⟨w1, hw1⟩ : ∃ W, W = w.alloc (.cells #[.string x.1, .int .i64 x.2.1, .int .i64 x.2.2.1, .slice a3 x.2.2.2.length n3] 101) := ⟨_, rfl⟩
  have z1 : Below w.heap.size w w1 := by rw [hw1]; exact (Below.refl _ _).alloc (Nat.le_refl _) _
  have A1 := Alt.below (fp := [] ++ ([] ++ ([] ++ q2))) z1
  have c3 : w1.cell? ⟨w.heap.size, 3, none⟩ = some (.slice a3 x.2.2.2.length n3) := by rw [hw1]; exact box_cell (Below.refl _ _) rfl
  replace t3 := oGl.frame t3 (fun p9 hp9 => z1.block p9 (hlt3 p9 hp9))
  have hz1 := z1.size
  go_wp2_with fail
  rw [← hw1]
  clear hw1 z1
  refine (markR_Gl a3 x.2.2.2.length n3 x.2.2.2 q2 _ _ t3 hn3 (by omega) (by omega) (by omega)).mono ?_
  rintro e w2 ⟨rfl, t3, z2⟩
  have A2 := A1.trans (z2.mono (fq := [] ++ ([] ++ ([] ++ q2))) (fun p9 hp9 => by simp [hp9]))
  clear z2
  have HR : Hid (Own oTs lo hi w2 [.string x.1, .int .i64 x.2.1, .int .i64 x.2.2.1, .slice a3 x.2.2.2.length n3] (mk_Ts k x) ∧ Turn lo hi w w2) := ⟨⟨_, ⟨[.string x.1], [.int .i64 x.2.1, .int .i64 x.2.2.1, .slice a3 x.2.2.2.length n3], [], _, rfl, rfl, ⟨rfl, hs0, rfl⟩, ⟨[.int .i64 x.2.1], [.int .i64 x.2.2.1, .slice a3 x.2.2.2.length n3], [], _, rfl, rfl, ⟨rfl, hs1, rfl⟩, ⟨[.int .i64 x.2.2.1], [.slice a3 x.2.2.2.length n3], [], _, rfl, rfl, ⟨rfl, hs2, rfl⟩, t3⟩⟩⟩, HN.out, HFR.out⟩, A2.turn HFR.out⟩
  clear t3 A1 A2
  go_wp2_with fail
  go_ret
  exact ⟨ret_int (by simp only [cnt_I, cnt_II] <;> omega), HR.out⟩

end Go.Proofs.Ytbkoddikfpkocaa

/- Arguments of kind Ts opened. Written by a program. -/
namespace Go.Proofs.Ytbkoddikfpkocaa
open Go.ChangeShapes Go.WideShapes Go.ChangeAt Go.RowKit
set_option linter.unusedVariables false
set_option maxRecDepth 100000

theorem opens_Ts : Opens 108 rTs := opens_struct4 Try.underlying108 (by kernel_rfl) rfl rfl rfl rfl (by kernel_rfl) (by kernel_rfl) (by kernel_rfl) (by kernel_rfl) opens_str' opens_int opens_int opens_Gl
abbrev kTs_in := agg_in rTs
theorem open_kTs_in {H : Type} {enc : TypeId × Value → H} {W : World} {d : DataW H} {ps : List MemPlace} {v : Value} (hv : Value.okWide Try.prog W .any 0 108 v) (h : DataW.Trod enc Try.prog W 0 (fun _ => true) true 108 v d ps) : kTs_in W v :=
  open_agg_in Try.underlying108 opens_Ts hv h

end Go.Proofs.Ytbkoddikfpkocaa

/- Two slices that a loop appends to (rows, and ints), beside a cell of its own. -/
namespace Go.Proofs.Ytbkoddikfpkocaa
open Go.RowKit
set_option linter.unusedVariables false
set_option linter.unusedSimpArgs false

/-- append of one element, run: the footprints told. -/
theorem run_app_fp {α : Type} {T E size bytes : Nat} {z : Value} (hT : Try.prog.underlying T = some (.slice E)) (hE : (Try.prog.info? E).map (fun i => (i.zero, i.size, i.bytes)) = some (some z, size, bytes)) (hz : z.cells.size = size) (hpos : 0 < size) (hby : bytes ≤ 1000)
    {o' : OS α} (hsz : o'.size = size) {W W1 : World} (ty : TypeId) (v : Value) (xs : List α) (c : List Value) (y : α) (fv fy : List Nat)
    (hv : (O.slice E o').rep W [v] xs fv) (hnd : fv.Nodup) (hyr : o'.rep W c y fy) (hynd : fy.Nodup) (hdis : ∀ k ∈ fy, k ∉ fv) (hone : ∀ u ∈ c, u.oneCell' = true) (hn : xs.length ≤ 100000000) (hW1 : W1 = W.alloc (.cells c.toArray E)) :
    ∃ a n cp w' fv', (Builtin.append_ #[T, T] ty #[v, .slice (some ⟨W.heap.size, 0, none⟩) 1 1]).run Try.prog W1 = .ok (.slice a n cp) w' ∧ (O.slice E o').rep w' [.slice a n cp] (xs ++ [y]) fv' ∧ fv'.Nodup ∧ (∀ k ∈ fv', k ∈ fv ∨ k ∈ fy ∨ (W.heap.size < k ∧ k < w'.heap.size)) ∧ W.heap.size < w'.heap.size ∧ (w'.os = W.os ∧ w'.tape = W.tape ∧ w'.output = W.output) ∧ (∀ k, k < W.heap.size → k ∉ fv → w'.heap[k]? = W.heap[k]?) := by
  subst hW1
  obtain ⟨i, hi, hz0, hz1, hz2⟩ := info_parts hE
  have hlt9 := (O.slice E o').lt hv
  obtain ⟨v1, css, fps, hv1, rfl, hrow, hrows⟩ := hv
  simp at hv1
  subst hv1
  have hclen : c.length = size := by rw [← hsz]; exact o'.len hyr
  rw [hsz] at hrow
  have hnl := List.nodup_append.1 hnd
  have hnew : Below W.heap.size W (W.alloc (.cells c.toArray E)) := (Below.refl _ _).alloc (Nat.le_refl _) _
  have hrow1 := own_below hrow hnew (Nat.le_refl _)
  have hylt := o'.lt hyr
  have hby2 : (xs.length + 1) * bytes ≤ 140737488355328 := Nat.le_trans (Nat.mul_le_mul (show xs.length + 1 ≤ 100000001 by omega) hby) (by decide)
  obtain ⟨v', w', hrun, h3, h4, _, h5⟩ := run_append_own_at (P := Try.prog) (W.alloc (.cells c.toArray E)) 0 T ty E i z size bytes hT hi hz0 hz1 hz2 hz hpos v xs.length css.flatten hrow1 ⟨W.heap.size, 0, none⟩ 1 1 c (by omega) (fresh_cells W c E) hone (by unfold maxLen; omega) hby2 (Nat.zero_le _)
  obtain ⟨a', cp, rfl, _, _⟩ := own_form h3
  have hsz' := h4.size
  simp at hsz'
  have hv' : ∀ k ∈ bl (.slice a' (xs.length + 1) cp), k ∈ bl v ∨ k = W.heap.size + 1 := by
    intro k hk
    have hk' : (Value.slice a' (xs.length + 1) cp).ownBlock = some k := by simpa [bl] using hk
    rcases h5 with h5 | h5
    · left; simp only [bl]; rw [← h5, hk']; simp
    · right
      rw [h5] at hk'
      simp at hk'
      omega
  have hkeep : ∀ k, k < W.heap.size → k ∉ bl v → w'.heap[k]? = W.heap[k]? := by
    intro k hk hn
    rw [h4.block k (by simp; omega) (fun e => hn (by simp only [bl]; rw [← e]; simp)), Below.heap_alloc W _ k hk]
  refine ⟨a', xs.length + 1, cp, w', bl (.slice a' (xs.length + 1) cp) ++ (fps ++ [fy]).flatten, hrun, ⟨_, css ++ [c], fps ++ [fy], rfl, rfl, ?_, ?_⟩, ?_, ?_, by omega, ⟨h4.os, h4.tape, h4.output⟩, fun k hk hx => hkeep k hk (fun hb => hx (List.mem_append_left _ hb))⟩
  · rw [hsz]; simpa using h3
  · have hk2 : ∀ k, k ∈ fps.flatten ++ fy → w'.heap[k]? = W.heap[k]? := by
      intro k hk
      rcases List.mem_append.1 hk with hk | hk
      · exact hkeep k (hlt9 k (List.mem_append_right _ hk)) (fun hb => hnl.2.2 k hb k hk rfl)
      · exact hkeep k (hylt k hk) (fun hb => hdis k hk (List.mem_append_left _ hb))
    exact o'.rows_snoc (o'.frame hyr (fun k hk => hk2 k (List.mem_append_right _ hk))) (o'.rows_frame hrows (fun k hk => hk2 k (List.mem_append_left _ hk)))
  · rw [List.flatten_append, List.nodup_append]
    refine ⟨by unfold bl; cases (Value.slice a' (xs.length + 1) cp).ownBlock <;> simp, ?_, ?_⟩
    · rw [List.nodup_append]
      refine ⟨hnl.2.1, by simpa using hynd, ?_⟩
      intro p hp q hq e
      subst e
      exact hdis p (by simpa using hq) (List.mem_append_right _ hp)
    · intro p hp q hq e
      subst e
      rcases hv' p hp with h8 | h8
      · rcases List.mem_append.1 hq with hq | hq
        · exact hnl.2.2 p h8 p hq rfl
        · exact hdis p (by simpa using hq) (List.mem_append_left _ h8)
      · rcases List.mem_append.1 hq with hq | hq
        · have := hlt9 p (List.mem_append_right _ hq); omega
        · have := hylt p (by simpa using hq); omega
  · intro k hk
    rcases List.mem_append.1 hk with hk | hk
    · rcases hv' k hk with h8 | h8
      · exact .inl (List.mem_append_left _ h8)
      · have h9 := (h3.lt k (by simpa [bl] using hk)).2
        exact .inr (.inr (by omega))
    · simp only [List.flatten_append, List.mem_append] at hk
      rcases hk with hk | hk
      · exact .inl (List.mem_append_right _ hk)
      · exact .inr (.inl (by simpa using hk))

/-- v (rows) and u (ints) are slices of the call's own, apart, from lo on; the block cb is no part of them. -/
def Two (lo hi cb : Nat) (w : World) (v u : Value) (xs : List (List Int)) (ys : List Int) : Prop :=
  ∃ fv fu, oII.rep w [v] xs fv ∧ oI.rep w [u] ys fu ∧ fv.Nodup ∧ fu.Nodup ∧ (∀ k ∈ fv, k ∉ fu) ∧ cb ∉ fv ∧ cb ∉ fu ∧ (∀ k ∈ fv, lo ≤ k ∧ k < hi) ∧ (∀ k ∈ fu, lo ≤ k ∧ k < hi)
theorem Two.mono {lo hi hi' cb : Nat} {w : World} {v u : Value} {xs : List (List Int)} {ys : List Int} (h : Two lo hi cb w v u xs ys) (hh : hi ≤ hi') : Two lo hi' cb w v u xs ys := by
  obtain ⟨fv, fu, h1, h2, h3, h4, h5, h6, h7, h8, h9⟩ := h
  exact ⟨fv, fu, h1, h2, h3, h4, h5, h6, h7, fun k hk => by have := h8 k hk; omega, fun k hk => by have := h9 k hk; omega⟩
theorem Two.frame {lo hi cb : Nat} {w w' : World} {v u : Value} {xs : List (List Int)} {ys : List Int} (h : Two lo hi cb w v u xs ys) (hb : ∀ k, lo ≤ k → k < hi → k ≠ cb → w'.heap[k]? = w.heap[k]?) : Two lo hi cb w' v u xs ys := by
  obtain ⟨fv, fu, h1, h2, h3, h4, h5, h6, h7, h8, h9⟩ := h
  exact ⟨fv, fu, oII.frame h1 (fun k hk => hb k (h8 k hk).1 (h8 k hk).2 (fun e => h6 (e ▸ hk))), oI.frame h2 (fun k hk => hb k (h9 k hk).1 (h9 k hk).2 (fun e => h7 (e ▸ hk))), h3, h4, h5, h6, h7, h8, h9⟩
theorem Two.below {lo hi cb C : Nat} {w w' : World} {v u : Value} {xs : List (List Int)} {ys : List Int} (h : Two lo hi cb w v u xs ys) (hb : Below C w w') (hC : hi ≤ C) : Two lo hi cb w' v u xs ys :=
  h.frame fun k _ hk _ => hb.block k (by omega)
/-- Another cell. -/
theorem Two.recb {lo hi cb cb' : Nat} {w : World} {v u : Value} {xs : List (List Int)} {ys : List Int} (h : Two lo hi cb w v u xs ys) (hc : hi ≤ cb' ∨ cb' < lo) : Two lo hi cb' w v u xs ys := by
  obtain ⟨fv, fu, h1, h2, h3, h4, h5, h6, h7, h8, h9⟩ := h
  exact ⟨fv, fu, h1, h2, h3, h4, h5, fun hk => by have := h8 _ hk; omega, fun hk => by have := h9 _ hk; omega, h8, h9⟩
theorem Two.set {lo hi cb i : Nat} {w : World} {v u : Value} {xs : List (List Int)} {ys : List Int} (h : Two lo hi cb w v u xs ys) (x : Value) : Two lo hi cb (w.setCell ⟨cb, i, none⟩ x) v u xs ys :=
  h.frame fun k _ _ hk => Below.heap_setCell _ _ _ _ hk
theorem Two.fst {lo hi cb : Nat} {w : World} {v u : Value} {xs : List (List Int)} {ys : List Int} (h : Two lo hi cb w v u xs ys) : Own oII lo hi w [v] xs := by
  obtain ⟨fv, fu, h1, h2, h3, h4, h5, h6, h7, h8, h9⟩ := h
  exact ⟨fv, h1, h3, h8⟩
theorem Two.snd {lo hi cb : Nat} {w : World} {v u : Value} {xs : List (List Int)} {ys : List Int} (h : Two lo hi cb w v u xs ys) : Own oI lo hi w [u] ys := by
  obtain ⟨fv, fu, h1, h2, h3, h4, h5, h6, h7, h8, h9⟩ := h
  exact ⟨fu, h2, h4, h9⟩
theorem Two.mk {lo mid hi cb : Nat} {w : World} {v u : Value} {xs : List (List Int)} {ys : List Int} (h : Own oII lo mid w [v] xs) (k : Own oI mid hi w [u] ys) (hc : cb < lo ∨ hi ≤ cb) (h1 : lo ≤ mid) (h2 : mid ≤ hi) : Two lo hi cb w v u xs ys := by
  obtain ⟨fv, a1, a2, a3⟩ := h
  obtain ⟨fu, b1, b2, b3⟩ := k
  exact ⟨fv, fu, a1, b1, a2, b2, fun k hk hk2 => by have := a3 k hk; have := b3 k hk2; omega, fun hk => by have := a3 _ hk; omega, fun hk => by have := b3 _ hk; omega, fun k hk => by have := a3 k hk; omega, fun k hk => by have := b3 k hk; omega⟩

/-- A row goes in. -/
theorem Two.row {lo hi cb h1 h2 : Nat} {W W1 : World} {v u y : Value} {xs : List (List Int)} {ys r : List Int} (ty : TypeId) (h : Two lo hi cb W v u xs ys) (hy : Own oI h1 h2 W [y] r) (hone : y.oneCell' = true) (hh1 : hi ≤ h1) (hh : h1 ≤ h2) (hh2 : h2 ≤ W.heap.size) (hcb : cb < h1) (hlo : lo ≤ hi) (hn : xs.length ≤ 1000000) (hW1 : W1 = W.alloc (.cells #[y] 24)) :
    ∃ a n c w', (Builtin.append_ #[32, 32] ty #[v, .slice (some ⟨W.heap.size, 0, none⟩) 1 1]).run Try.prog W1 = .ok (.slice a n c) w' ∧ Two lo w'.heap.size cb w' (.slice a n c) u (xs ++ [r]) ys ∧ Below lo W w' ∧ W.heap.size < w'.heap.size ∧ w'.heap[cb]? = W.heap[cb]? := by
  obtain ⟨fv, fu, a1, a2, a3, a4, a5, a6, a7, a8, a9⟩ := h
  obtain ⟨fy, b1, b2, b3⟩ := hy
  obtain ⟨a, n, c, w', fv', hr, c1, c2, c3, c4, ⟨c5, c6, c7⟩, c8⟩ := run_app_fp (W := W) (W1 := W1) Try.underlying32 infoI rfl (by decide) (by decide) rfl ty v xs [y] r fv fy a1 a3 b1 b2 (fun k hk hk2 => by have := b3 k hk; have := a8 k hk2; omega) (by intro z hz; simp at hz; subst hz; exact hone) (by omega) hW1
  have hcbW : cb < W.heap.size := by omega
  refine ⟨a, n, c, w', hr, ⟨fv', fu, c1, oI.frame a2 (fun k hk => c8 k (by have := a9 k hk; omega) (fun hk2 => a5 k hk2 hk)), c2, a4, fun k hk hk2 => ?_, fun hk => ?_, a7, fun k hk => ?_, fun k hk => by have := a9 k hk; omega⟩, ⟨c5, c6, c7, by omega, fun k hk => c8 k (by omega) (fun hk2 => by have := a8 k hk2; omega)⟩, c4, c8 cb hcbW a6⟩
  · have := a9 k hk2
    rcases c3 k hk with h9 | h9 | h9
    · exact a5 k h9 hk2
    · have := b3 k h9; omega
    · omega
  · rcases c3 _ hk with h9 | h9 | h9
    · exact a6 h9
    · have := b3 _ h9; omega
    · omega
  · rcases c3 k hk with h9 | h9 | h9
    · have := a8 k h9; omega
    · have := b3 k h9; omega
    · omega
/-- A number goes in. -/
theorem Two.num {lo hi cb : Nat} {W W1 : World} {v u : Value} {xs : List (List Int)} {ys : List Int} {r : Int} (ty : TypeId) (h : Two lo hi cb W v u xs ys) (hr : I64 r) (hh2 : hi ≤ W.heap.size) (hcb : cb < W.heap.size) (hlo : lo ≤ hi) (hn : ys.length ≤ 1000000) (hW1 : W1 = W.alloc (.cells #[.int .i64 r] 3)) :
    ∃ a n c w', (Builtin.append_ #[24, 24] ty #[u, .slice (some ⟨W.heap.size, 0, none⟩) 1 1]).run Try.prog W1 = .ok (.slice a n c) w' ∧ Two lo w'.heap.size cb w' v (.slice a n c) xs (ys ++ [r]) ∧ Below lo W w' ∧ W.heap.size < w'.heap.size ∧ w'.heap[cb]? = W.heap[cb]? := by
  obtain ⟨fv, fu, a1, a2, a3, a4, a5, a6, a7, a8, a9⟩ := h
  obtain ⟨a, n, c, w', fu', hrun, c1, c2, c3, c4, ⟨c5, c6, c7⟩, c8⟩ := run_app_fp (W := W) (W1 := W1) Try.underlying24 infoInt rfl (by decide) (by decide) rfl ty u ys [.int .i64 r] r fu [] a2 a4 (o' := O.int) ⟨rfl, hr, rfl⟩ (by simp) (fun k hk => by cases hk) (by intro z hz; simp at hz; subst hz; rfl) (by omega) hW1
  refine ⟨a, n, c, w', hrun, ⟨fv, fu', oII.frame a1 (fun k hk => c8 k (by have := a8 k hk; omega) (fun hk2 => a5 k hk hk2)), c1, a3, c2, fun k hk hk2 => ?_, a6, fun hk => ?_, fun k hk => by have := a8 k hk; omega, fun k hk => ?_⟩, ⟨c5, c6, c7, by omega, fun k hk => c8 k (by omega) (fun hk2 => by have := a9 k hk2; omega)⟩, c4, c8 cb hcb a7⟩
  · have := a8 k hk
    rcases c3 k hk2 with h9 | h9 | h9
    · exact a5 k hk h9
    · cases h9
    · omega
  · rcases c3 _ hk with h9 | h9 | h9
    · exact a7 h9
    · cases h9
    · omega
  · rcases c3 k hk with h9 | h9 | h9
    · have := a9 k h9; omega
    · cases h9
    · omega
/-- A builtin append, by its run. -/
theorem wpList_app_run {W W' : World} {ops : Array Oper} {rest : List Oper} {o : Oper} {a : Act} {Q : Exit → Act → World → Prop} {s x : Operand} {t t' ty : TypeId} {vs vx v' : Value}
    (hrun : (Builtin.append_ #[t, t'] ty #[vs, vx]).run Try.prog W = .ok v' W') (hty : o.type = ty) (hgd : o.guard = none)
    (ho : o.op = .call { callee := .builtin .append, args := #[s, x], argTypes := #[t, t'] }) (hs : a.eval s = vs) (hx : a.eval x = vx)
    (h : wpList Try.prog ops Q rest (a.put o.dst v') W') : wpList Try.prog ops Q (o :: rest) a W := by
  refine wpList_plain hgd fun K hK => ?_
  unfold Oper.wp execOp
  simp only [ho, resolve, invoke, builtin, Sem.run_bind, Sem.run_pure, Result.andThen_ok, List.map_toArray, List.map_cons, List.map_nil, hs, hx, hty, hrun]
  exact hK _ _ h

end Go.Proofs.Ytbkoddikfpkocaa
