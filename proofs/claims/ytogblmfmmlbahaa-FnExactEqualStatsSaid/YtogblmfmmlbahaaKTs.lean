/- Kind Ts: shape, size, copy, comparison. Written by a program. -/
import Derived.Test.YtogblmfmmlbahaaKGl
import Derived.Deep.RegionHeld3
namespace Go.Proofs.Ytogblmfmmlbahaa
open Go.RowKit
set_option linter.unusedVariables false
set_option linter.unusedSimpArgs false
set_option synthInstance.maxSize 2000
set_option synthInstance.maxHeartbeats 400000

abbrev DTs := ByteArray × Int × Int × List DGs
def rTs : RS DTs := R.pair R.str (R.pair R.int (R.pair R.int rGl))
def oTs : OS DTs := O.pair O.str (O.pair O.int (O.pair O.int oGl))
theorem reads_Ts : Reads oTs rTs := Reads.pair Reads.str (Reads.pair Reads.int (Reads.pair Reads.int reads_Gl))
theorem rTs_open {w : World} {cs : List Value} {x : DTs} (h : rTs.rep w cs x) : ∃ ub3 un3 uc3, cs = [.string x.1, .int .i64 x.2.1, .int .i64 x.2.2.1, .slice ub3 un3 uc3] ∧ x.1.size ≤ 9223372036854775807 ∧ I64 x.2.1 ∧ I64 x.2.2.1 ∧ rGl.rep w [.slice ub3 un3 uc3] x.2.2.2 := by
  obtain ⟨c0a, c0b, rfl, ⟨rfl, hs0⟩, ⟨c1a, c1b, rfl, ⟨rfl, hi1⟩, ⟨c2a, c2b, rfl, ⟨rfl, hi2⟩, hr3⟩⟩⟩ := h
  obtain ⟨ub3, un3, uc3, rfl⟩ := rGl_form hr3
  exact ⟨_, _, _, rfl, hs0, hi1, hi2, hr3⟩
theorem rTs_form {w : World} {cs : List Value} {x : DTs} (h : rTs.rep w cs x) : ∃ ub3 un3 uc3, cs = [.string x.1, .int .i64 x.2.1, .int .i64 x.2.2.1, .slice ub3 un3 uc3] := by
  obtain ⟨ub3, un3, uc3, h1, _⟩ := rTs_open h
  exact ⟨_, _, _, h1⟩
theorem rTs_mk {w : World} {ub3 : Option Addr} {un3 uc3 : Nat} {x : DTs} (h0 : x.1.size ≤ 9223372036854775807) (h1 : I64 x.2.1) (h2 : I64 x.2.2.1) (h3 : rGl.rep w [.slice ub3 un3 uc3] x.2.2.2) : rTs.rep w [.string x.1, .int .i64 x.2.1, .int .i64 x.2.2.1, .slice ub3 un3 uc3] x :=
  ⟨[.string x.1], [.int .i64 x.2.1, .int .i64 x.2.2.1, .slice ub3 un3 uc3], rfl, ⟨rfl, h0⟩, ⟨[.int .i64 x.2.1], [.int .i64 x.2.2.1, .slice ub3 un3 uc3], rfl, ⟨rfl, h1⟩, ⟨[.int .i64 x.2.2.1], [.slice ub3 un3 uc3], rfl, ⟨rfl, h2⟩, h3⟩⟩⟩
theorem oTs_form {lo hi : Nat} {w : World} {cs : List Value} {x : DTs} (h : Own oTs lo hi w cs x) : ∃ ub3 un3 uc3, cs = [.string x.1, .int .i64 x.2.1, .int .i64 x.2.2.1, .slice ub3 un3 uc3] := rTs_form (h.rd reads_Ts)

theorem oTs_mk {lo hi l3 m3 : Nat} {w : World} {ub3 : Option Addr} {un3 uc3 : Nat} {x : DTs} (hs0 : x.1.size ≤ 9223372036854775807) (hi1 : I64 x.2.1) (hi2 : I64 x.2.2.1) (ho3 : Own oGl l3 m3 w [.slice ub3 un3 uc3] x.2.2.2) (a3 : lo ≤ l3) (b3 : m3 ≤ hi)  : Own oTs lo hi w [.string x.1, .int .i64 x.2.1, .int .i64 x.2.2.1, .slice ub3 un3 uc3] x := by
  obtain ⟨f3, r3, n3, q3⟩ := ho3
  refine ⟨([] ++ ([] ++ ([] ++ f3))), ⟨[.string x.1], [.int .i64 x.2.1, .int .i64 x.2.2.1, .slice ub3 un3 uc3], [], ([] ++ ([] ++ f3)), rfl, rfl, ⟨rfl, hs0, rfl⟩, ⟨[.int .i64 x.2.1], [.int .i64 x.2.2.1, .slice ub3 un3 uc3], [], ([] ++ f3), rfl, rfl, ⟨rfl, hi1, rfl⟩, ⟨[.int .i64 x.2.2.1], [.slice ub3 un3 uc3], [], f3, rfl, rfl, ⟨rfl, hi2, rfl⟩, r3⟩⟩⟩, ?_, ?_⟩
  · try simp only [List.nil_append, List.append_nil]
    exact n3
  · intro p hp
    simp only [List.nil_append, List.append_nil, List.mem_append] at hp
    have := q3 p hp; omega

def bulk_Ts (x : DTs) : Nat := (x.1.size) + (bulk_Gl x.2.2.2)

set_option maxHeartbeats 1000000 in
theorem sz_Ts (cs : List Value) (x : DTs) (left : Int) (w : World) (h : rTs.rep w cs x) (h0 : 0 ≤ left) (h1 : left ≤ 1048576) :
    Calls Try.prog 35 #[.agg cs.toArray, .int .i64 left] w fun e w' => e = .returned (.int .i64 (szR left (bulk_Ts x))) ∧ Below w.heap.size w w' := by
  obtain ⟨ub3, un3, uc3, rfl, g0, g1, g2, g3⟩ := rTs_open h
  clear h
  have HE0 : Hid (szR left (bulk_Ts x) = szR left ((x.1.size) + (bulk_Gl x.2.2.2))) := rfl
  go_enter Try.func35, Try.ntmps35
  obtain ⟨w1, hw1⟩ : ∃ W, W = w.alloc (.cells #[.string x.1, .int .i64 x.2.1, .int .i64 x.2.2.1, .slice ub3 un3 uc3] 51) := ⟨_, rfl⟩
  have z1 : Below w.heap.size w w1 := by rw [hw1]; exact (Below.refl _ _).alloc (Nat.le_refl _) _
  have s1 : w1.heap.size = w.heap.size + 1 := by rw [hw1]; simp
  have bp_0 : w1.cell? ⟨w.heap.size, 0, none⟩ = some (.string x.1) := by rw [hw1]; exact box_cell (Below.refl _ _) rfl
  have bp_1 : w1.cell? ⟨w.heap.size, 1, none⟩ = some (.int .i64 x.2.1) := by rw [hw1]; exact box_cell (Below.refl _ _) rfl
  have bp_2 : w1.cell? ⟨w.heap.size, 2, none⟩ = some (.int .i64 x.2.2.1) := by rw [hw1]; exact box_cell (Below.refl _ _) rfl
  have bp_3 : w1.cell? ⟨w.heap.size, 3, none⟩ = some (.slice ub3 un3 uc3) := by rw [hw1]; exact box_cell (Below.refl _ _) rfl
  have hb1 := z1
  by_cases l0 : (x.1.size : Int) ≤ left
  case neg =>
    have HE := Lib.hid (HE0.out.trans (szR_no _ l0))
    go_wp2_with fail
    go_ret
    exact ⟨ret_int HE.out.symm, by first | exact hb1 | (have h9 := hb1; rw [hw1] at h9; exact h9)⟩
  have HE1 := Lib.hid (HE0.out.trans (szR_add l0))
  go_wp2_with fail
  rw [← hw1]
  clear hw1
  refine (sz_Gl _ (x.2.2.2) _ _ (rGl.mono g3 hb1) (by omega) (by omega)).mono ?_
  rintro e w2 ⟨rfl, z2⟩
  have s2 := z2.size
  have hb2 := on hb1 z2
  replace bp_0 := (z2.cell (p := ⟨w.heap.size, 0, none⟩) (by simp only []; omega)).trans bp_0
  replace bp_1 := (z2.cell (p := ⟨w.heap.size, 1, none⟩) (by simp only []; omega)).trans bp_1
  replace bp_2 := (z2.cell (p := ⟨w.heap.size, 2, none⟩) (by simp only []; omega)).trans bp_2
  replace bp_3 := (z2.cell (p := ⟨w.heap.size, 3, none⟩) (by simp only []; omega)).trans bp_3
  obtain ⟨q3, hq3⟩ : ∃ q, q = szR (left - x.1.size) (bulk_Gl (x.2.2.2)) := ⟨_, rfl⟩
  rw [← hq3]
  have hc3 := szR_cases (left - x.1.size) (bulk_Gl (x.2.2.2))
  rw [← hq3] at hc3
  clear hq3
  rcases hc3 with ⟨rfl, l3⟩ | ⟨hq3, l3⟩
  · have HE := Lib.hid (HE1.out.trans (szR_no0 l3))
    clear l3
    go_wp2_with fail
    go_ret
    exact ⟨ret_int HE.out.symm, hb2⟩
  have HE2 := Lib.hid (HE1.out.trans ((szR_yes l3).trans (by rw [hq3])) : szR left (bulk_Ts x) = q3)
  have p3 : 0 ≤ q3 := by omega
  have p3b : q3 ≤ 1048576 := by omega
  clear hq3 l3
  go_wp2_with fail
  go_ret
  exact ⟨ret_int HE2.out.symm, hb2⟩

set_option maxHeartbeats 2000000 in
theorem to_Ts (cs : List Value) (x : DTs) (w : World) (h : rTs.rep w cs x) (hn : bulk_Ts x ≤ 1048576) :
    Calls Try.prog 37 #[.agg cs.toArray] w fun e w' => ∃ us, e = .returned (.agg us.toArray) ∧ Own oTs w.heap.size w'.heap.size w' us x ∧ Below w.heap.size w w' := by
  obtain ⟨ub3, un3, uc3, rfl, g0, g1, g2, g3⟩ := rTs_open h
  clear h
  unfold bulk_Ts at hn
  have hn3 : bulk_Gl (x.2.2.2) ≤ 1048576 := by omega
  clear hn
  go_enter Try.func37, Try.ntmps37
  obtain ⟨W0, hW0⟩ : ∃ W, W = ((w.alloc (.cells #[.string x.1, .int .i64 x.2.1, .int .i64 x.2.2.1, .slice ub3 un3 uc3] 51)).alloc (.cells #[.string ⟨#[]⟩, .int .i64 0, .int .i64 0, .slice none 0 0] 56)).alloc (.cells #[.string x.1, .int .i64 x.2.1, .int .i64 x.2.2.1, .slice none 0 0] 56) := ⟨_, rfl⟩
  have hB0 : Below w.heap.size w W0 := by rw [hW0]; exact (((Below.refl _ _).alloc (Nat.le_refl _) _).alloc (by simp) _).alloc (by simp <;> omega) _
  have t0 : W0.heap.size = w.heap.size + 1 + 1 + 1 := by rw [hW0]; simp
  have bp_0 : W0.cell? ⟨w.heap.size, 0, none⟩ = some (.string x.1) := by rw [hW0]; simp [go_sem, World.cell?_alloc_past]
  have bp_1 : W0.cell? ⟨w.heap.size, 1, none⟩ = some (.int .i64 x.2.1) := by rw [hW0]; simp [go_sem, World.cell?_alloc_past]
  have bp_2 : W0.cell? ⟨w.heap.size, 2, none⟩ = some (.int .i64 x.2.2.1) := by rw [hW0]; simp [go_sem, World.cell?_alloc_past]
  have bp_3 : W0.cell? ⟨w.heap.size, 3, none⟩ = some (.slice ub3 un3 uc3) := by rw [hW0]; simp [go_sem, World.cell?_alloc_past]
  have br_0 : W0.cell? ⟨w.heap.size + 1, 0, none⟩ = some (.string ⟨#[]⟩) := by rw [hW0]; simp [go_sem, World.cell?_alloc_past]
  have fr_0 : W0.frozen? ⟨w.heap.size + 1, 0, none⟩ = false := by rw [hW0]; simp [go_sem, World.frozen?_alloc_past]
  have br_1 : W0.cell? ⟨w.heap.size + 1, 1, none⟩ = some (.int .i64 0) := by rw [hW0]; simp [go_sem, World.cell?_alloc_past]
  have fr_1 : W0.frozen? ⟨w.heap.size + 1, 1, none⟩ = false := by rw [hW0]; simp [go_sem, World.frozen?_alloc_past]
  have br_2 : W0.cell? ⟨w.heap.size + 1, 2, none⟩ = some (.int .i64 0) := by rw [hW0]; simp [go_sem, World.cell?_alloc_past]
  have fr_2 : W0.frozen? ⟨w.heap.size + 1, 2, none⟩ = false := by rw [hW0]; simp [go_sem, World.frozen?_alloc_past]
  have br_3 : W0.cell? ⟨w.heap.size + 1, 3, none⟩ = some (.slice none 0 0) := by rw [hW0]; simp [go_sem, World.cell?_alloc_past]
  have fr_3 : W0.frozen? ⟨w.heap.size + 1, 3, none⟩ = false := by rw [hW0]; simp [go_sem, World.frozen?_alloc_past]
  have bo_0 : W0.cell? ⟨w.heap.size + 1 + 1, 0, none⟩ = some (.string x.1) := by rw [hW0]; simp [go_sem, World.cell?_alloc_past]
  have fo_0 : W0.frozen? ⟨w.heap.size + 1 + 1, 0, none⟩ = false := by rw [hW0]; simp [go_sem, World.frozen?_alloc_past]
  have bo_1 : W0.cell? ⟨w.heap.size + 1 + 1, 1, none⟩ = some (.int .i64 x.2.1) := by rw [hW0]; simp [go_sem, World.cell?_alloc_past]
  have fo_1 : W0.frozen? ⟨w.heap.size + 1 + 1, 1, none⟩ = false := by rw [hW0]; simp [go_sem, World.frozen?_alloc_past]
  have bo_2 : W0.cell? ⟨w.heap.size + 1 + 1, 2, none⟩ = some (.int .i64 x.2.2.1) := by rw [hW0]; simp [go_sem, World.cell?_alloc_past]
  have fo_2 : W0.frozen? ⟨w.heap.size + 1 + 1, 2, none⟩ = false := by rw [hW0]; simp [go_sem, World.frozen?_alloc_past]
  have bo_3 : W0.cell? ⟨w.heap.size + 1 + 1, 3, none⟩ = some (.slice none 0 0) := by rw [hW0]; simp [go_sem, World.cell?_alloc_past]
  have fo_3 : W0.frozen? ⟨w.heap.size + 1 + 1, 3, none⟩ = false := by rw [hW0]; simp [go_sem, World.frozen?_alloc_past]
  go_wp2_with fail
  rw [← hW0]
  clear hW0
  refine (to_Gl _ (x.2.2.2) _ (rGl.mono g3 hB0) hn3).mono ?_
  rintro e w1 ⟨a3, rfl, ho3, z1⟩
  have s1 := z1.size
  obtain ⟨ab3, an3, ac3, rfl⟩ := oGl_form1 ho3
  have q1 := on hB0 z1
  replace bp_0 := (z1.cell (p := ⟨w.heap.size, 0, none⟩) (by simp only []; omega)).trans bp_0
  replace bp_1 := (z1.cell (p := ⟨w.heap.size, 1, none⟩) (by simp only []; omega)).trans bp_1
  replace bp_2 := (z1.cell (p := ⟨w.heap.size, 2, none⟩) (by simp only []; omega)).trans bp_2
  replace bp_3 := (z1.cell (p := ⟨w.heap.size, 3, none⟩) (by simp only []; omega)).trans bp_3
  replace br_0 := (z1.cell (p := ⟨w.heap.size + 1, 0, none⟩) (by simp only []; omega)).trans br_0
  replace fr_0 := (z1.frozen (p := ⟨w.heap.size + 1, 0, none⟩) (by simp only []; omega)).trans fr_0
  replace br_1 := (z1.cell (p := ⟨w.heap.size + 1, 1, none⟩) (by simp only []; omega)).trans br_1
  replace fr_1 := (z1.frozen (p := ⟨w.heap.size + 1, 1, none⟩) (by simp only []; omega)).trans fr_1
  replace br_2 := (z1.cell (p := ⟨w.heap.size + 1, 2, none⟩) (by simp only []; omega)).trans br_2
  replace fr_2 := (z1.frozen (p := ⟨w.heap.size + 1, 2, none⟩) (by simp only []; omega)).trans fr_2
  replace br_3 := (z1.cell (p := ⟨w.heap.size + 1, 3, none⟩) (by simp only []; omega)).trans br_3
  replace fr_3 := (z1.frozen (p := ⟨w.heap.size + 1, 3, none⟩) (by simp only []; omega)).trans fr_3
  replace bo_0 := (z1.cell (p := ⟨w.heap.size + 1 + 1, 0, none⟩) (by simp only []; omega)).trans bo_0
  replace fo_0 := (z1.frozen (p := ⟨w.heap.size + 1 + 1, 0, none⟩) (by simp only []; omega)).trans fo_0
  replace bo_1 := (z1.cell (p := ⟨w.heap.size + 1 + 1, 1, none⟩) (by simp only []; omega)).trans bo_1
  replace fo_1 := (z1.frozen (p := ⟨w.heap.size + 1 + 1, 1, none⟩) (by simp only []; omega)).trans fo_1
  replace bo_2 := (z1.cell (p := ⟨w.heap.size + 1 + 1, 2, none⟩) (by simp only []; omega)).trans bo_2
  replace fo_2 := (z1.frozen (p := ⟨w.heap.size + 1 + 1, 2, none⟩) (by simp only []; omega)).trans fo_2
  replace bo_3 := (z1.cell (p := ⟨w.heap.size + 1 + 1, 3, none⟩) (by simp only []; omega)).trans bo_3
  replace fo_3 := (z1.frozen (p := ⟨w.heap.size + 1 + 1, 3, none⟩) (by simp only []; omega)).trans fo_3
  go_wp2_with fail
  refine bodyPost_ret (v := .agg #[.string x.1, .int .i64 x.2.1, .int .i64 x.2.2.1, .slice ab3 an3 ac3]) (by simp [results, Try.results37, go_sem, br_0, br_1, br_2, br_3, bo_0, bo_1, bo_2, bo_3, fr_0, fr_1, fr_2, fr_3, fo_0, fo_1, fo_2, fo_3]) rfl ⟨_, rfl, ?_, ?_⟩
  · skip
    have hS3 : ∀ (W : World) (p : Addr) (u : Value), p.block < w.heap.size + 1 + 1 + 1 → Own oGl W0.heap.size w1.heap.size W [.slice ab3 an3 ac3] (x.2.2.2) → Own oGl W0.heap.size w1.heap.size (W.setCell p u) [.slice ab3 an3 ac3] (x.2.2.2) := fun W p u hp k9 => k9.setOut rfl (by omega)
    exact oTs_mk g0 g1 g2 (hS3 _ _ _ (by simp <;> omega) (hS3 _ _ _ (by simp <;> omega) (hS3 _ _ _ (by simp <;> omega) (hS3 _ _ _ (by simp <;> omega) (hS3 _ _ _ (by simp <;> omega) ho3))))) (by omega) (by simp [World.setCell] <;> omega) 
  · exact (((((q1.setCell (by simp <;> omega) _).setCell (by simp <;> omega) _).setCell (by simp <;> omega) _).setCell (by simp <;> omega) _).setCell (by simp <;> omega) _)

set_option maxHeartbeats 2000000 in
theorem eq_Ts (cs ds : List Value) (x y : DTs) (w : World) (h : rTs.rep w cs x) (h' : rTs.rep w ds y) :
    Calls Try.prog 39 #[.agg cs.toArray, .agg ds.toArray] w fun e w' => e = .returned (.bool (decide (x = y))) ∧ Below w.heap.size w w' := by
  obtain ⟨ub3, un3, uc3, rfl, g0, g1, g2, g3⟩ := rTs_open h
  obtain ⟨vb3, vn3, vc3, rfl, k0, k1, k2, k3⟩ := rTs_open h'
  clear h h'
  have hb1 : Below w.heap.size w ((w.alloc (.cells #[.string x.1, .int .i64 x.2.1, .int .i64 x.2.2.1, .slice ub3 un3 uc3] 56)).alloc (.cells #[.string y.1, .int .i64 y.2.1, .int .i64 y.2.2.1, .slice vb3 vn3 vc3] 56)) := ((Below.refl _ _).alloc (Nat.le_refl _) _).alloc (by simp) _
  go_enter Try.func39, Try.ntmps39
  obtain ⟨w1, hw1⟩ : ∃ W, W = (w.alloc (.cells #[.string x.1, .int .i64 x.2.1, .int .i64 x.2.2.1, .slice ub3 un3 uc3] 56)).alloc (.cells #[.string y.1, .int .i64 y.2.1, .int .i64 y.2.2.1, .slice vb3 vn3 vc3] 56) := ⟨_, rfl⟩
  have s1 : w1.heap.size = w.heap.size + 1 + 1 := by rw [hw1]; simp
  rw [← hw1] at hb1
  have bc_0 : w1.cell? ⟨w.heap.size, 0, none⟩ = some (.string x.1) := by rw [hw1]; simp [go_sem, World.cell?_alloc_past]
  have bd_0 : w1.cell? ⟨w.heap.size + 1, 0, none⟩ = some (.string y.1) := by rw [hw1]; simp [go_sem, World.cell?_alloc_past]
  have bc_1 : w1.cell? ⟨w.heap.size, 1, none⟩ = some (.int .i64 x.2.1) := by rw [hw1]; simp [go_sem, World.cell?_alloc_past]
  have bd_1 : w1.cell? ⟨w.heap.size + 1, 1, none⟩ = some (.int .i64 y.2.1) := by rw [hw1]; simp [go_sem, World.cell?_alloc_past]
  have bc_2 : w1.cell? ⟨w.heap.size, 2, none⟩ = some (.int .i64 x.2.2.1) := by rw [hw1]; simp [go_sem, World.cell?_alloc_past]
  have bd_2 : w1.cell? ⟨w.heap.size + 1, 2, none⟩ = some (.int .i64 y.2.2.1) := by rw [hw1]; simp [go_sem, World.cell?_alloc_past]
  have bc_3 : w1.cell? ⟨w.heap.size, 3, none⟩ = some (.slice ub3 un3 uc3) := by rw [hw1]; simp [go_sem, World.cell?_alloc_past]
  have bd_3 : w1.cell? ⟨w.heap.size + 1, 3, none⟩ = some (.slice vb3 vn3 vc3) := by rw [hw1]; simp [go_sem, World.cell?_alloc_past]
  by_cases e0 : x.1 = y.1
  case neg =>
    have HE := Lib.hid (show decide (x = y) = false by simp only [decide_eq_false_iff_not]; intro h9; exact e0 (by rw [h9]))
    have hne := bytes_ne e0
    clear e0
    go_wp2_with fail
    go_ret
    exact ⟨ret_bool HE.out.symm, by first | exact hb1 | (rw [hw1] at hb1; exact hb1)⟩
  have E0 := Lib.hid e0
  have hq0 : (x.1.toList == y.1.toList) = true := by rw [e0]; simp
  clear e0
  by_cases e1 : x.2.1 = y.2.1
  case neg =>
    have HE := Lib.hid (show decide (x = y) = false by simp only [decide_eq_false_iff_not]; intro h9; exact e1 (by rw [h9]))
    have hne := bne_iff_ne.2 e1
    clear e1
    go_wp2_with fail
    go_ret
    exact ⟨ret_bool HE.out.symm, by first | exact hb1 | (rw [hw1] at hb1; exact hb1)⟩
  have E1 := Lib.hid e1
  have hq1 : (x.2.1 != y.2.1) = false := by rw [e1]; simp
  clear e1
  by_cases e2 : x.2.2.1 = y.2.2.1
  case neg =>
    have HE := Lib.hid (show decide (x = y) = false by simp only [decide_eq_false_iff_not]; intro h9; exact e2 (by rw [h9]))
    have hne := bne_iff_ne.2 e2
    clear e2
    go_wp2_with fail
    go_ret
    exact ⟨ret_bool HE.out.symm, by first | exact hb1 | (rw [hw1] at hb1; exact hb1)⟩
  have E2 := Lib.hid e2
  have hq2 : (x.2.2.1 != y.2.2.1) = false := by rw [e2]; simp
  clear e2
  go_wp2_with fail
  rw [← hw1]
  clear hw1
  refine (eq_Gl _ _ (x.2.2.2) (y.2.2.2) _ (rGl.mono g3 hb1) (rGl.mono k3 hb1)).mono ?_
  rintro e w2 ⟨rfl, z2⟩
  have s2 := z2.size
  have hb2 := on hb1 z2
  replace bc_0 := (z2.cell (p := ⟨w.heap.size, 0, none⟩) (by simp only []; omega)).trans bc_0
  replace bd_0 := (z2.cell (p := ⟨w.heap.size + 1, 0, none⟩) (by simp only []; omega)).trans bd_0
  replace bc_1 := (z2.cell (p := ⟨w.heap.size, 1, none⟩) (by simp only []; omega)).trans bc_1
  replace bd_1 := (z2.cell (p := ⟨w.heap.size + 1, 1, none⟩) (by simp only []; omega)).trans bd_1
  replace bc_2 := (z2.cell (p := ⟨w.heap.size, 2, none⟩) (by simp only []; omega)).trans bc_2
  replace bd_2 := (z2.cell (p := ⟨w.heap.size + 1, 2, none⟩) (by simp only []; omega)).trans bd_2
  replace bc_3 := (z2.cell (p := ⟨w.heap.size, 3, none⟩) (by simp only []; omega)).trans bc_3
  replace bd_3 := (z2.cell (p := ⟨w.heap.size + 1, 3, none⟩) (by simp only []; omega)).trans bd_3
  by_cases e3 : x.2.2.2 = y.2.2.2
  case neg =>
    have HE := Lib.hid (show decide (x = y) = false by simp only [decide_eq_false_iff_not]; intro h9; exact e3 (by rw [h9]))
    have hne : decide (x.2.2.2 = y.2.2.2) = false := by simpa using e3
    rw [hne]
    clear e3 hne
    go_wp2_with fail
    go_ret
    exact ⟨ret_bool HE.out.symm, hb2⟩
  have E3 := Lib.hid e3
  have hq3 : decide (x.2.2.2 = y.2.2.2) = true := by simpa using e3
  rw [hq3]
  clear e3 hq3
  have HE := Lib.hid (show decide (x = y) = true by simp only [decide_eq_true_eq]; exact Prod.ext E0.out (Prod.ext E1.out (Prod.ext E2.out (E3.out))))
  go_wp2_with fail
  go_ret
  exact ⟨ret_bool HE.out.symm, hb2⟩

end Go.Proofs.Ytogblmfmmlbahaa
