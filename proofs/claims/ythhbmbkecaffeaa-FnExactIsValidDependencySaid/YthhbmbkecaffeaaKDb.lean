/- Kind Db: shape, size, copy, comparison. Written by a program. -/
import Derived.Test.YthhbmbkecaffeaaKTl
import Derived.Deep.RegionHeld3
namespace Go.Proofs.Ythhbmbkecaffeaa
open Go.RowKit
set_option linter.unusedVariables false
set_option linter.unusedSimpArgs false
set_option synthInstance.maxSize 2000
set_option synthInstance.maxHeartbeats 400000

abbrev DDb := List DT
def rDb : RS DDb := rTl
def oDb : OS DDb := oTl
theorem reads_Db : Reads oDb rDb := reads_Tl
theorem rDb_open {w : World} {cs : List Value} {x : DDb} (h : rDb.rep w cs x) : ∃ ub0 un0 uc0, cs = [.slice ub0 un0 uc0] ∧ rTl.rep w [.slice ub0 un0 uc0] x := by
  have hr0 := h
  obtain ⟨ub0, un0, uc0, rfl⟩ := rTl_form hr0
  exact ⟨_, _, _, rfl, hr0⟩
theorem rDb_form {w : World} {cs : List Value} {x : DDb} (h : rDb.rep w cs x) : ∃ ub0 un0 uc0, cs = [.slice ub0 un0 uc0] := by
  obtain ⟨ub0, un0, uc0, h1, _⟩ := rDb_open h
  exact ⟨_, _, _, h1⟩
theorem rDb_mk {w : World} {ub0 : Option Addr} {un0 uc0 : Nat} {x : DDb} (h0 : rTl.rep w [.slice ub0 un0 uc0] x) : rDb.rep w [.slice ub0 un0 uc0] x :=
  h0
theorem oDb_form {lo hi : Nat} {w : World} {cs : List Value} {x : DDb} (h : Own oDb lo hi w cs x) : ∃ ub0 un0 uc0, cs = [.slice ub0 un0 uc0] := rDb_form (h.rd reads_Db)

theorem oDb_mk {lo hi l0 m0 : Nat} {w : World} {ub0 : Option Addr} {un0 uc0 : Nat} {x : DDb} (ho0 : Own oTl l0 m0 w [.slice ub0 un0 uc0] x) (a0 : lo ≤ l0) (b0 : m0 ≤ hi)  : Own oDb lo hi w [.slice ub0 un0 uc0] x := by
  obtain ⟨f0, r0, n0, q0⟩ := ho0
  refine ⟨f0, r0, ?_, ?_⟩
  · try simp only [List.nil_append, List.append_nil]
    exact n0
  · intro p hp
    try simp only [List.nil_append, List.append_nil, List.mem_append] at hp
    have := q0 p hp; omega

def bulk_Db (x : DDb) : Nat := bulk_Tl x

set_option maxHeartbeats 1000000 in
theorem sz_Db (cs : List Value) (x : DDb) (left : Int) (w : World) (h : rDb.rep w cs x) (h0 : 0 ≤ left) (h1 : left ≤ 1048576) :
    Calls Try.prog 25 #[.agg cs.toArray, .int .i64 left] w fun e w' => e = .returned (.int .i64 (szR left (bulk_Db x))) ∧ Below w.heap.size w w' := by
  obtain ⟨ub0, un0, uc0, rfl, g0⟩ := rDb_open h
  clear h
  have HE0 : Hid (szR left (bulk_Db x) = szR left (bulk_Tl x)) := rfl
  go_enter Try.func25, Try.ntmps25
  obtain ⟨w1, hw1⟩ : ∃ W, W = w.alloc (.cells #[.slice ub0 un0 uc0] 41) := ⟨_, rfl⟩
  have z1 : Below w.heap.size w w1 := by rw [hw1]; exact (Below.refl _ _).alloc (Nat.le_refl _) _
  have s1 : w1.heap.size = w.heap.size + 1 := by rw [hw1]; simp
  have bp_0 : w1.cell? ⟨w.heap.size, 0, none⟩ = some (.slice ub0 un0 uc0) := by rw [hw1]; exact box_cell (Below.refl _ _) rfl
  have hb1 := z1
  go_wp2_with fail
  rw [← hw1]
  clear hw1
  refine (sz_Tl _ x _ _ (rTl.mono g0 hb1) (by omega) (by omega)).mono ?_
  rintro e w2 ⟨rfl, z2⟩
  have s2 := z2.size
  have hb2 := on hb1 z2
  replace bp_0 := (z2.cell (p := ⟨w.heap.size, 0, none⟩) (by simp only []; omega)).trans bp_0
  obtain ⟨q0, hq0⟩ : ∃ q, q = szR left (bulk_Tl x) := ⟨_, rfl⟩
  rw [← hq0]
  have hc0 := szR_cases left (bulk_Tl x)
  rw [← hq0] at hc0
  clear hq0
  rcases hc0 with ⟨rfl, l0⟩ | ⟨hq0, l0⟩
  · have HE := Lib.hid (HE0.out.trans (szR_no0 l0))
    clear l0
    go_wp2_with fail
    go_ret
    exact ⟨ret_int HE.out.symm, hb2⟩
  have HE1 := Lib.hid (HE0.out.trans ((szR_yes l0).trans (by rw [hq0])) : szR left (bulk_Db x) = q0)
  have p0 : 0 ≤ q0 := by omega
  have p0b : q0 ≤ 1048576 := by omega
  clear hq0 l0
  go_wp2_with fail
  go_ret
  exact ⟨ret_int HE1.out.symm, hb2⟩

set_option maxHeartbeats 2000000 in
theorem to_Db (cs : List Value) (x : DDb) (w : World) (h : rDb.rep w cs x) (hn : bulk_Db x ≤ 1048576) :
    Calls Try.prog 28 #[.agg cs.toArray] w fun e w' => ∃ us, e = .returned (.agg us.toArray) ∧ Own oDb w.heap.size w'.heap.size w' us x ∧ Below w.heap.size w w' := by
  obtain ⟨ub0, un0, uc0, rfl, g0⟩ := rDb_open h
  clear h
  unfold bulk_Db at hn
  have hn0 : bulk_Tl x ≤ 1048576 := by omega
  clear hn
  go_enter Try.func28, Try.ntmps28
  obtain ⟨W0, hW0⟩ : ∃ W, W = ((w.alloc (.cells #[.slice ub0 un0 uc0] 41)).alloc (.cells #[.slice none 0 0] 49)).alloc (.cells #[.slice none 0 0] 49) := ⟨_, rfl⟩
  have hB0 : Below w.heap.size w W0 := by rw [hW0]; exact (((Below.refl _ _).alloc (Nat.le_refl _) _).alloc (by simp) _).alloc (by simp <;> omega) _
  have t0 : W0.heap.size = w.heap.size + 1 + 1 + 1 := by rw [hW0]; simp
  have bp_0 : W0.cell? ⟨w.heap.size, 0, none⟩ = some (.slice ub0 un0 uc0) := by rw [hW0]; simp [go_sem, World.cell?_alloc_past]
  have br_0 : W0.cell? ⟨w.heap.size + 1, 0, none⟩ = some (.slice none 0 0) := by rw [hW0]; simp [go_sem, World.cell?_alloc_past]
  have fr_0 : W0.frozen? ⟨w.heap.size + 1, 0, none⟩ = false := by rw [hW0]; simp [go_sem, World.frozen?_alloc_past]
  have bo_0 : W0.cell? ⟨w.heap.size + 1 + 1, 0, none⟩ = some (.slice none 0 0) := by rw [hW0]; simp [go_sem, World.cell?_alloc_past]
  have fo_0 : W0.frozen? ⟨w.heap.size + 1 + 1, 0, none⟩ = false := by rw [hW0]; simp [go_sem, World.frozen?_alloc_past]
  go_wp2_with fail
  rw [← hW0]
  clear hW0
  refine (to_Tl _ x _ (rTl.mono g0 hB0) hn0).mono ?_
  rintro e w1 ⟨a0, rfl, ho0, z1⟩
  have s1 := z1.size
  obtain ⟨ab0, an0, ac0, rfl⟩ := oTl_form1 ho0
  have q1 := on hB0 z1
  replace bp_0 := (z1.cell (p := ⟨w.heap.size, 0, none⟩) (by simp only []; omega)).trans bp_0
  replace br_0 := (z1.cell (p := ⟨w.heap.size + 1, 0, none⟩) (by simp only []; omega)).trans br_0
  replace fr_0 := (z1.frozen (p := ⟨w.heap.size + 1, 0, none⟩) (by simp only []; omega)).trans fr_0
  replace bo_0 := (z1.cell (p := ⟨w.heap.size + 1 + 1, 0, none⟩) (by simp only []; omega)).trans bo_0
  replace fo_0 := (z1.frozen (p := ⟨w.heap.size + 1 + 1, 0, none⟩) (by simp only []; omega)).trans fo_0
  go_wp2_with fail
  refine bodyPost_ret (v := .agg #[.slice ab0 an0 ac0]) (by simp [results, Try.results28, go_sem, br_0, bo_0, fr_0, fo_0]) rfl ⟨_, rfl, ?_, ?_⟩
  · skip
    have hS0 : ∀ (W : World) (p : Addr) (u : Value), p.block < w.heap.size + 1 + 1 + 1 → Own oTl W0.heap.size w1.heap.size W [.slice ab0 an0 ac0] x → Own oTl W0.heap.size w1.heap.size (W.setCell p u) [.slice ab0 an0 ac0] x := fun W p u hp k9 => k9.setOut rfl (by omega)
    exact oDb_mk (hS0 _ _ _ (by simp <;> omega) (hS0 _ _ _ (by simp <;> omega) ho0)) (by omega) (by simp [World.setCell] <;> omega) 
  · exact ((q1.setCell (by simp <;> omega) _).setCell (by simp <;> omega) _)

set_option maxHeartbeats 2000000 in
theorem eq_Db (cs ds : List Value) (x y : DDb) (w : World) (h : rDb.rep w cs x) (h' : rDb.rep w ds y) :
    Calls Try.prog 31 #[.agg cs.toArray, .agg ds.toArray] w fun e w' => e = .returned (.bool (decide (x = y))) ∧ Below w.heap.size w w' := by
  obtain ⟨ub0, un0, uc0, rfl, g0⟩ := rDb_open h
  obtain ⟨vb0, vn0, vc0, rfl, k0⟩ := rDb_open h'
  clear h h'
  have hb1 : Below w.heap.size w ((w.alloc (.cells #[.slice ub0 un0 uc0] 49)).alloc (.cells #[.slice vb0 vn0 vc0] 49)) := ((Below.refl _ _).alloc (Nat.le_refl _) _).alloc (by simp) _
  go_enter Try.func31, Try.ntmps31
  obtain ⟨w1, hw1⟩ : ∃ W, W = (w.alloc (.cells #[.slice ub0 un0 uc0] 49)).alloc (.cells #[.slice vb0 vn0 vc0] 49) := ⟨_, rfl⟩
  have s1 : w1.heap.size = w.heap.size + 1 + 1 := by rw [hw1]; simp
  rw [← hw1] at hb1
  have bc_0 : w1.cell? ⟨w.heap.size, 0, none⟩ = some (.slice ub0 un0 uc0) := by rw [hw1]; simp [go_sem, World.cell?_alloc_past]
  have bd_0 : w1.cell? ⟨w.heap.size + 1, 0, none⟩ = some (.slice vb0 vn0 vc0) := by rw [hw1]; simp [go_sem, World.cell?_alloc_past]
  go_wp2_with fail
  rw [← hw1]
  clear hw1
  refine (eq_Tl _ _ x y _ (rTl.mono g0 hb1) (rTl.mono k0 hb1)).mono ?_
  rintro e w2 ⟨rfl, z2⟩
  have s2 := z2.size
  have hb2 := on hb1 z2
  replace bc_0 := (z2.cell (p := ⟨w.heap.size, 0, none⟩) (by simp only []; omega)).trans bc_0
  replace bd_0 := (z2.cell (p := ⟨w.heap.size + 1, 0, none⟩) (by simp only []; omega)).trans bd_0
  by_cases e0 : x = y
  case neg =>
    have HE := Lib.hid (show decide (x = y) = false by simp only [decide_eq_false_iff_not]; intro h9; exact e0 (by rw [h9]))
    have hne : decide (x = y) = false := by simpa using e0
    rw [hne]
    clear e0 hne
    go_wp2_with fail
    go_ret
    exact ⟨ret_bool HE.out.symm, hb2⟩
  have E0 := Lib.hid e0
  have hq0 : decide (x = y) = true := by simpa using e0
  rw [hq0]
  clear e0 hq0
  have HE := Lib.hid (show decide (x = y) = true by simp only [decide_eq_true_eq]; exact E0.out)
  go_wp2_with fail
  go_ret
  exact ⟨ret_bool HE.out.symm, hb2⟩

end Go.Proofs.Ythhbmbkecaffeaa
