/- Contracts: whether an inclusion is valid. -/
import Derived.Test.YthhbmbkecaffeaaLookA
import Derived.Test.YthhbmbkecaffeaaKIn
namespace Go.Proofs.Ythhbmbkecaffeaa
open Go.RowKit Go.Sort
set_option linter.unusedVariables false
set_option linter.unusedSimpArgs false
set_option synthInstance.maxSize 2000
set_option synthInstance.maxHeartbeats 400000

/-- Whether an inclusion is valid. -/
def validIn (db : DDb) (x : DIn) : Bool := (look db x.1).isSome && ((look db x.2.2.1).isSome && (betw x.2.1 0 ((lookT (look db x.1)).2.1 - 1) && betw x.2.2.2 0 ((lookT (look db x.2.2.1)).2.1 - 1)))

set_option maxHeartbeats 1000000 in
theorem validIn_impl (cs ds : List Value) (db : DDb) (x : DIn) (w : World) (h : rDb.rep w cs db) (h' : rIn.rep w ds x) :
    Calls Try.prog 30 #[.agg cs.toArray, .agg ds.toArray] w fun e w' => e = .returned (.bool (validIn db x)) ∧ Below w.heap.size w w' := by
  obtain ⟨ub, un, uc, rfl, g1⟩ := rDb_open h
  obtain ⟨rfl, hs0, hi1, hs2, hi3⟩ := rIn_open h'
  obtain ⟨m1, c1, m2, c2⟩ := x
  simp only at hs0 hi1 hs2 hi3
  have hA := @lookT_ar db m1
  have hB := @lookT_ar db m2
  have hc1 := fun W (hW : Below w.heap.size w W) => lookI_any [.slice ub un uc] db m1 W (rDb.mono h hW)
  have hc2 := fun W (hW : Below w.heap.size w W) => lookI_any [.slice ub un uc] db m2 W (rDb.mono h hW)
  have HV : Hid (validIn db (m1, c1, m2, c2) = ((look db m1).isSome && ((look db m2).isSome && (betw c1 0 ((lookT (look db m1)).2.1 - 1) && betw c2 0 ((lookT (look db m2)).2.1 - 1))))) := rfl
  obtain ⟨p, hp⟩ : ∃ p, (look db m1).isSome = p := ⟨_, rfl⟩
  obtain ⟨q, hq⟩ : ∃ q, (look db m2).isSome = q := ⟨_, rfl⟩
  obtain ⟨t1, ht1⟩ : ∃ t, lookT (look db m1) = t := ⟨_, rfl⟩
  obtain ⟨t2, ht2⟩ : ∃ t, lookT (look db m2) = t := ⟨_, rfl⟩
  rw [hp, hq, ht1, ht2] at HV
  simp only [hp, ht1] at hc1 hA
  simp only [hq, ht2] at hc2 hB
  obtain ⟨ns, A, r1⟩ := t1
  obtain ⟨ms, B, r2⟩ := t2
  simp only at hA hB HV hc1 hc2
  have HC1 := Lib.hid hc1
  have HC2 := Lib.hid hc2
  have hwA : IntKind.i64.wrap (A - 1) = A - 1 := IntWalk.i64_in _ (by omega)
  have hwB : IntKind.i64.wrap (B - 1) = B - 1 := IntWalk.i64_in _ (by omega)
  obtain ⟨u, hu⟩ : ∃ u, betw c1 0 (A - 1) = u := ⟨_, rfl⟩
  rw [hu] at HV
  clear hc1 hc2 hp hq ht1 ht2 h h' g1 hs0 hi1 hs2 hi3 hA hB
  have hb0 : Below w.heap.size w w := Below.refl _ _
  go_enter Try.func30, Try.ntmps30
  obtain ⟨w1, hw1⟩ : ∃ W, W = w.alloc (.cells #[.slice ub un uc] 49) := ⟨_, rfl⟩
  have z1 : Below w.heap.size w w1 := by rw [hw1]; exact (Below.refl _ _).alloc (Nat.le_refl _) _
  have s1 : w1.heap.size = w.heap.size + 1 := by rw [hw1]; simp
  have hb1 := on hb0 z1
  have b_0 : w1.cell? ⟨w.heap.size, 0, none⟩ = some (.slice ub un uc) := by rw [hw1]; exact box_cell (Below.refl _ _) rfl
  have raw1_b_0 := b_0
  rw [hw1] at raw1_b_0
  obtain ⟨w2, hw2⟩ : ∃ W, W = w1.alloc (.cells #[.string m1, .int .i64 c1, .string m2, .int .i64 c2] 51) := ⟨_, rfl⟩
  have z2 : Below w1.heap.size w1 w2 := by rw [hw2]; exact (Below.refl _ _).alloc (Nat.le_refl _) _
  have s2 : w2.heap.size = w1.heap.size + 1 := by rw [hw2]; simp
  have hb2 := on hb1 z2
  replace b_0 := (z2.cell (p := ⟨w.heap.size, 0, none⟩) (by simp only []; omega)).trans b_0
  have e2 : w1.heap.size = w.heap.size + 1 := by omega
  have x_0 : w2.cell? ⟨w1.heap.size, 0, none⟩ = some (.string m1) := by rw [hw2]; exact box_cell (Below.refl _ _) rfl
  have x_1 : w2.cell? ⟨w1.heap.size, 1, none⟩ = some (.int .i64 c1) := by rw [hw2]; exact box_cell (Below.refl _ _) rfl
  have x_2 : w2.cell? ⟨w1.heap.size, 2, none⟩ = some (.string m2) := by rw [hw2]; exact box_cell (Below.refl _ _) rfl
  have x_3 : w2.cell? ⟨w1.heap.size, 3, none⟩ = some (.int .i64 c2) := by rw [hw2]; exact box_cell (Below.refl _ _) rfl
  rw [e2] at x_0 x_1 x_2 x_3
  have raw2_b_0 := b_0
  have raw2_x_0 := x_0
  have raw2_x_1 := x_1
  have raw2_x_2 := x_2
  have raw2_x_3 := x_3
  rw [hw2, hw1] at raw2_b_0 raw2_x_0 raw2_x_1 raw2_x_2 raw2_x_3
  go_wp2_with fail
  rw [← hw1]
  rw [← hw2]
  clear hw2 hw1
  clear raw1_b_0 raw2_b_0 raw2_x_0 raw2_x_1 raw2_x_2 raw2_x_3
  refine (HC1.out _ hb2).mono ?_
  rintro e w9 ⟨vb, vn, vc, rfl, _, z9⟩
  have s3 := z9.size
  have hb3 := on hb2 z9
  replace b_0 := (z9.cell (p := ⟨w.heap.size, 0, none⟩) (by simp only []; omega)).trans b_0
  replace x_0 := (z9.cell (p := ⟨w.heap.size + 1, 0, none⟩) (by simp only []; omega)).trans x_0
  replace x_1 := (z9.cell (p := ⟨w.heap.size + 1, 1, none⟩) (by simp only []; omega)).trans x_1
  replace x_2 := (z9.cell (p := ⟨w.heap.size + 1, 2, none⟩) (by simp only []; omega)).trans x_2
  replace x_3 := (z9.cell (p := ⟨w.heap.size + 1, 3, none⟩) (by simp only []; omega)).trans x_3
  obtain ⟨w4, hw4⟩ : ∃ W, W = w9.alloc (.cells #[.string ns, .int .i64 A, .slice vb vn vc] 91) := ⟨_, rfl⟩
  have z4 : Below w9.heap.size w9 w4 := by rw [hw4]; exact (Below.refl _ _).alloc (Nat.le_refl _) _
  have s4 : w4.heap.size = w9.heap.size + 1 := by rw [hw4]; simp
  have hb4 := on hb3 z4
  have old4_b_0 := b_0
  have old4_x_0 := x_0
  have old4_x_1 := x_1
  have old4_x_2 := x_2
  have old4_x_3 := x_3
  replace b_0 := (z4.cell (p := ⟨w.heap.size, 0, none⟩) (by simp only []; omega)).trans b_0
  replace x_0 := (z4.cell (p := ⟨w.heap.size + 1, 0, none⟩) (by simp only []; omega)).trans x_0
  replace x_1 := (z4.cell (p := ⟨w.heap.size + 1, 1, none⟩) (by simp only []; omega)).trans x_1
  replace x_2 := (z4.cell (p := ⟨w.heap.size + 1, 2, none⟩) (by simp only []; omega)).trans x_2
  replace x_3 := (z4.cell (p := ⟨w.heap.size + 1, 3, none⟩) (by simp only []; omega)).trans x_3
  have t_0 : w4.cell? ⟨w9.heap.size, 0, none⟩ = some (.string ns) := by rw [hw4]; exact box_cell (Below.refl _ _) rfl
  have t_1 : w4.cell? ⟨w9.heap.size, 1, none⟩ = some (.int .i64 A) := by rw [hw4]; exact box_cell (Below.refl _ _) rfl
  have t_2 : w4.cell? ⟨w9.heap.size, 2, none⟩ = some (.slice vb vn vc) := by rw [hw4]; exact box_cell (Below.refl _ _) rfl
  have raw4_b_0 := b_0
  have raw4_x_0 := x_0
  have raw4_x_1 := x_1
  have raw4_x_2 := x_2
  have raw4_x_3 := x_3
  have raw4_t_0 := t_0
  have raw4_t_1 := t_1
  have raw4_t_2 := t_2
  rw [hw4] at raw4_b_0 raw4_x_0 raw4_x_1 raw4_x_2 raw4_x_3 raw4_t_0 raw4_t_1 raw4_t_2
  go_wp2_with fail
  rw [← hw4]
  clear hw4
  clear old4_b_0 old4_x_0 old4_x_1 old4_x_2 old4_x_3 raw4_b_0 raw4_x_0 raw4_x_1 raw4_x_2 raw4_x_3 raw4_t_0 raw4_t_1 raw4_t_2
  refine (HC2.out _ hb4).mono ?_
  rintro e w10 ⟨vb', vn', vc', rfl, _, z10⟩
  have s5 := z10.size
  have hb5 := on hb4 z10
  replace b_0 := (z10.cell (p := ⟨w.heap.size, 0, none⟩) (by simp only []; omega)).trans b_0
  replace x_0 := (z10.cell (p := ⟨w.heap.size + 1, 0, none⟩) (by simp only []; omega)).trans x_0
  replace x_1 := (z10.cell (p := ⟨w.heap.size + 1, 1, none⟩) (by simp only []; omega)).trans x_1
  replace x_2 := (z10.cell (p := ⟨w.heap.size + 1, 2, none⟩) (by simp only []; omega)).trans x_2
  replace x_3 := (z10.cell (p := ⟨w.heap.size + 1, 3, none⟩) (by simp only []; omega)).trans x_3
  replace t_0 := (z10.cell (p := ⟨w9.heap.size, 0, none⟩) (by simp only []; omega)).trans t_0
  replace t_1 := (z10.cell (p := ⟨w9.heap.size, 1, none⟩) (by simp only []; omega)).trans t_1
  replace t_2 := (z10.cell (p := ⟨w9.heap.size, 2, none⟩) (by simp only []; omega)).trans t_2
  obtain ⟨w6, hw6⟩ : ∃ W, W = w10.alloc (.cells #[.string ms, .int .i64 B, .slice vb' vn' vc'] 91) := ⟨_, rfl⟩
  have z6 : Below w10.heap.size w10 w6 := by rw [hw6]; exact (Below.refl _ _).alloc (Nat.le_refl _) _
  have s6 : w6.heap.size = w10.heap.size + 1 := by rw [hw6]; simp
  have hb6 := on hb5 z6
  have old6_b_0 := b_0
  have old6_x_0 := x_0
  have old6_x_1 := x_1
  have old6_x_2 := x_2
  have old6_x_3 := x_3
  have old6_t_0 := t_0
  have old6_t_1 := t_1
  have old6_t_2 := t_2
  replace b_0 := (z6.cell (p := ⟨w.heap.size, 0, none⟩) (by simp only []; omega)).trans b_0
  replace x_0 := (z6.cell (p := ⟨w.heap.size + 1, 0, none⟩) (by simp only []; omega)).trans x_0
  replace x_1 := (z6.cell (p := ⟨w.heap.size + 1, 1, none⟩) (by simp only []; omega)).trans x_1
  replace x_2 := (z6.cell (p := ⟨w.heap.size + 1, 2, none⟩) (by simp only []; omega)).trans x_2
  replace x_3 := (z6.cell (p := ⟨w.heap.size + 1, 3, none⟩) (by simp only []; omega)).trans x_3
  replace t_0 := (z6.cell (p := ⟨w9.heap.size, 0, none⟩) (by simp only []; omega)).trans t_0
  replace t_1 := (z6.cell (p := ⟨w9.heap.size, 1, none⟩) (by simp only []; omega)).trans t_1
  replace t_2 := (z6.cell (p := ⟨w9.heap.size, 2, none⟩) (by simp only []; omega)).trans t_2
  have y_0 : w6.cell? ⟨w10.heap.size, 0, none⟩ = some (.string ms) := by rw [hw6]; exact box_cell (Below.refl _ _) rfl
  have y_1 : w6.cell? ⟨w10.heap.size, 1, none⟩ = some (.int .i64 B) := by rw [hw6]; exact box_cell (Below.refl _ _) rfl
  have y_2 : w6.cell? ⟨w10.heap.size, 2, none⟩ = some (.slice vb' vn' vc') := by rw [hw6]; exact box_cell (Below.refl _ _) rfl
  have raw6_b_0 := b_0
  have raw6_x_0 := x_0
  have raw6_x_1 := x_1
  have raw6_x_2 := x_2
  have raw6_x_3 := x_3
  have raw6_t_0 := t_0
  have raw6_t_1 := t_1
  have raw6_t_2 := t_2
  have raw6_y_0 := y_0
  have raw6_y_1 := y_1
  have raw6_y_2 := y_2
  rw [hw6] at raw6_b_0 raw6_x_0 raw6_x_1 raw6_x_2 raw6_x_3 raw6_t_0 raw6_t_1 raw6_t_2 raw6_y_0 raw6_y_1 raw6_y_2
  cases p with
  | false =>
    go_wp2_with fail
    rw [← hw6]
    clear hw6
    clear old6_b_0 old6_x_0 old6_x_1 old6_x_2 old6_x_3 old6_t_0 old6_t_1 old6_t_2 raw6_b_0 raw6_x_0 raw6_x_1 raw6_x_2 raw6_x_3 raw6_t_0 raw6_t_1 raw6_t_2 raw6_y_0 raw6_y_1 raw6_y_2
    go_wp2_with fail
    go_ret
    exact ⟨ret_bool (by rw [HV.out]; rfl), hb6⟩
  | true =>
    cases q with
    | false =>
      go_wp2_with fail
      rw [← hw6]
      clear hw6
      clear old6_b_0 old6_x_0 old6_x_1 old6_x_2 old6_x_3 old6_t_0 old6_t_1 old6_t_2 raw6_b_0 raw6_x_0 raw6_x_1 raw6_x_2 raw6_x_3 raw6_t_0 raw6_t_1 raw6_t_2 raw6_y_0 raw6_y_1 raw6_y_2
      go_wp2_with fail
      go_ret
      exact ⟨ret_bool (by rw [HV.out]; rfl), hb6⟩
    | true =>
      cases u with
      | false =>
        go_wp2_with fail
        rw [← hw6]
        clear hw6
        clear old6_b_0 old6_x_0 old6_x_1 old6_x_2 old6_x_3 old6_t_0 old6_t_1 old6_t_2 raw6_b_0 raw6_x_0 raw6_x_1 raw6_x_2 raw6_x_3 raw6_t_0 raw6_t_1 raw6_t_2 raw6_y_0 raw6_y_1 raw6_y_2
        refine (within_any _ _ _ _).mono ?_
        rintro e w' ⟨rfl, rfl⟩
        rw [hu]
        go_wp2_with fail
        go_ret
        exact ⟨ret_bool (by rw [HV.out]; rfl), hb6⟩
      | true =>
        go_wp2_with fail
        rw [← hw6]
        clear hw6
        clear old6_b_0 old6_x_0 old6_x_1 old6_x_2 old6_x_3 old6_t_0 old6_t_1 old6_t_2 raw6_b_0 raw6_x_0 raw6_x_1 raw6_x_2 raw6_x_3 raw6_t_0 raw6_t_1 raw6_t_2 raw6_y_0 raw6_y_1 raw6_y_2
        refine (within_any _ _ _ _).mono ?_
        rintro e w' ⟨rfl, rfl⟩
        rw [hu]
        go_wp2_with fail
        refine (within_any _ _ _ _).mono ?_
        rintro e w' ⟨rfl, rfl⟩
        go_wp2_with fail
        go_ret
        exact ⟨ret_bool (by rw [HV.out]; rfl), hb6⟩

set_option maxHeartbeats 1000000 in
theorem validIn_spec (cs ds : List Value) (db : DDb) (x : DIn) (w : World) (h : rDb.rep w cs db) (h' : rIn.rep w ds x) :
    Calls Try.prog 27 #[.agg cs.toArray, .agg ds.toArray] w fun e w' => e = .returned (.bool (validIn db x)) ∧ Below w.heap.size w w' := by
  obtain ⟨ub, un, uc, rfl, g1⟩ := rDb_open h
  obtain ⟨rfl, hs0, hi1, hs2, hi3⟩ := rIn_open h'
  obtain ⟨m1, c1, m2, c2⟩ := x
  simp only at hs0 hi1 hs2 hi3
  have hA := @lookT_ar db m1
  have hB := @lookT_ar db m2
  have hc1 := fun W (hW : Below w.heap.size w W) => lookS_any [.slice ub un uc] db m1 W (rDb.mono h hW)
  have hc2 := fun W (hW : Below w.heap.size w W) => lookS_any [.slice ub un uc] db m2 W (rDb.mono h hW)
  have HV : Hid (validIn db (m1, c1, m2, c2) = ((look db m1).isSome && ((look db m2).isSome && (betw c1 0 ((lookT (look db m1)).2.1 - 1) && betw c2 0 ((lookT (look db m2)).2.1 - 1))))) := rfl
  obtain ⟨p, hp⟩ : ∃ p, (look db m1).isSome = p := ⟨_, rfl⟩
  obtain ⟨q, hq⟩ : ∃ q, (look db m2).isSome = q := ⟨_, rfl⟩
  obtain ⟨t1, ht1⟩ : ∃ t, lookT (look db m1) = t := ⟨_, rfl⟩
  obtain ⟨t2, ht2⟩ : ∃ t, lookT (look db m2) = t := ⟨_, rfl⟩
  rw [hp, hq, ht1, ht2] at HV
  simp only [hp, ht1] at hc1 hA
  simp only [hq, ht2] at hc2 hB
  obtain ⟨ns, A, r1⟩ := t1
  obtain ⟨ms, B, r2⟩ := t2
  simp only at hA hB HV hc1 hc2
  have HC1 := Lib.hid hc1
  have HC2 := Lib.hid hc2
  have hwA : IntKind.i64.wrap (A - 1) = A - 1 := IntWalk.i64_in _ (by omega)
  have hwB : IntKind.i64.wrap (B - 1) = B - 1 := IntWalk.i64_in _ (by omega)
  obtain ⟨u, hu⟩ : ∃ u, betw c1 0 (A - 1) = u := ⟨_, rfl⟩
  rw [hu] at HV
  clear hc1 hc2 hp hq ht1 ht2 h h' g1 hs0 hi1 hs2 hi3 hA hB
  have hb0 : Below w.heap.size w w := Below.refl _ _
  go_enter Try.func27, Try.ntmps27
  obtain ⟨w1, hw1⟩ : ∃ W, W = w.alloc (.cells #[.slice ub un uc] 49) := ⟨_, rfl⟩
  have z1 : Below w.heap.size w w1 := by rw [hw1]; exact (Below.refl _ _).alloc (Nat.le_refl _) _
  have s1 : w1.heap.size = w.heap.size + 1 := by rw [hw1]; simp
  have hb1 := on hb0 z1
  have b_0 : w1.cell? ⟨w.heap.size, 0, none⟩ = some (.slice ub un uc) := by rw [hw1]; exact box_cell (Below.refl _ _) rfl
  have raw1_b_0 := b_0
  rw [hw1] at raw1_b_0
  obtain ⟨w2, hw2⟩ : ∃ W, W = w1.alloc (.cells #[.string m1, .int .i64 c1, .string m2, .int .i64 c2] 51) := ⟨_, rfl⟩
  have z2 : Below w1.heap.size w1 w2 := by rw [hw2]; exact (Below.refl _ _).alloc (Nat.le_refl _) _
  have s2 : w2.heap.size = w1.heap.size + 1 := by rw [hw2]; simp
  have hb2 := on hb1 z2
  replace b_0 := (z2.cell (p := ⟨w.heap.size, 0, none⟩) (by simp only []; omega)).trans b_0
  have e2 : w1.heap.size = w.heap.size + 1 := by omega
  have x_0 : w2.cell? ⟨w1.heap.size, 0, none⟩ = some (.string m1) := by rw [hw2]; exact box_cell (Below.refl _ _) rfl
  have x_1 : w2.cell? ⟨w1.heap.size, 1, none⟩ = some (.int .i64 c1) := by rw [hw2]; exact box_cell (Below.refl _ _) rfl
  have x_2 : w2.cell? ⟨w1.heap.size, 2, none⟩ = some (.string m2) := by rw [hw2]; exact box_cell (Below.refl _ _) rfl
  have x_3 : w2.cell? ⟨w1.heap.size, 3, none⟩ = some (.int .i64 c2) := by rw [hw2]; exact box_cell (Below.refl _ _) rfl
  rw [e2] at x_0 x_1 x_2 x_3
  have raw2_b_0 := b_0
  have raw2_x_0 := x_0
  have raw2_x_1 := x_1
  have raw2_x_2 := x_2
  have raw2_x_3 := x_3
  rw [hw2, hw1] at raw2_b_0 raw2_x_0 raw2_x_1 raw2_x_2 raw2_x_3
  go_wp2_with fail
  rw [← hw1]
  rw [← hw2]
  clear hw2 hw1
  clear raw1_b_0 raw2_b_0 raw2_x_0 raw2_x_1 raw2_x_2 raw2_x_3
  refine (HC1.out _ hb2).mono ?_
  rintro e w9 ⟨vb, vn, vc, rfl, _, z9⟩
  have s3 := z9.size
  have hb3 := on hb2 z9
  replace b_0 := (z9.cell (p := ⟨w.heap.size, 0, none⟩) (by simp only []; omega)).trans b_0
  replace x_0 := (z9.cell (p := ⟨w.heap.size + 1, 0, none⟩) (by simp only []; omega)).trans x_0
  replace x_1 := (z9.cell (p := ⟨w.heap.size + 1, 1, none⟩) (by simp only []; omega)).trans x_1
  replace x_2 := (z9.cell (p := ⟨w.heap.size + 1, 2, none⟩) (by simp only []; omega)).trans x_2
  replace x_3 := (z9.cell (p := ⟨w.heap.size + 1, 3, none⟩) (by simp only []; omega)).trans x_3
  obtain ⟨w4, hw4⟩ : ∃ W, W = w9.alloc (.cells #[.string ns, .int .i64 A, .slice vb vn vc] 91) := ⟨_, rfl⟩
  have z4 : Below w9.heap.size w9 w4 := by rw [hw4]; exact (Below.refl _ _).alloc (Nat.le_refl _) _
  have s4 : w4.heap.size = w9.heap.size + 1 := by rw [hw4]; simp
  have hb4 := on hb3 z4
  have old4_b_0 := b_0
  have old4_x_0 := x_0
  have old4_x_1 := x_1
  have old4_x_2 := x_2
  have old4_x_3 := x_3
  replace b_0 := (z4.cell (p := ⟨w.heap.size, 0, none⟩) (by simp only []; omega)).trans b_0
  replace x_0 := (z4.cell (p := ⟨w.heap.size + 1, 0, none⟩) (by simp only []; omega)).trans x_0
  replace x_1 := (z4.cell (p := ⟨w.heap.size + 1, 1, none⟩) (by simp only []; omega)).trans x_1
  replace x_2 := (z4.cell (p := ⟨w.heap.size + 1, 2, none⟩) (by simp only []; omega)).trans x_2
  replace x_3 := (z4.cell (p := ⟨w.heap.size + 1, 3, none⟩) (by simp only []; omega)).trans x_3
  have t_0 : w4.cell? ⟨w9.heap.size, 0, none⟩ = some (.string ns) := by rw [hw4]; exact box_cell (Below.refl _ _) rfl
  have t_1 : w4.cell? ⟨w9.heap.size, 1, none⟩ = some (.int .i64 A) := by rw [hw4]; exact box_cell (Below.refl _ _) rfl
  have t_2 : w4.cell? ⟨w9.heap.size, 2, none⟩ = some (.slice vb vn vc) := by rw [hw4]; exact box_cell (Below.refl _ _) rfl
  have raw4_b_0 := b_0
  have raw4_x_0 := x_0
  have raw4_x_1 := x_1
  have raw4_x_2 := x_2
  have raw4_x_3 := x_3
  have raw4_t_0 := t_0
  have raw4_t_1 := t_1
  have raw4_t_2 := t_2
  rw [hw4] at raw4_b_0 raw4_x_0 raw4_x_1 raw4_x_2 raw4_x_3 raw4_t_0 raw4_t_1 raw4_t_2
  go_wp2_with fail
  rw [← hw4]
  clear hw4
  clear old4_b_0 old4_x_0 old4_x_1 old4_x_2 old4_x_3 raw4_b_0 raw4_x_0 raw4_x_1 raw4_x_2 raw4_x_3 raw4_t_0 raw4_t_1 raw4_t_2
  refine (HC2.out _ hb4).mono ?_
  rintro e w10 ⟨vb', vn', vc', rfl, _, z10⟩
  have s5 := z10.size
  have hb5 := on hb4 z10
  replace b_0 := (z10.cell (p := ⟨w.heap.size, 0, none⟩) (by simp only []; omega)).trans b_0
  replace x_0 := (z10.cell (p := ⟨w.heap.size + 1, 0, none⟩) (by simp only []; omega)).trans x_0
  replace x_1 := (z10.cell (p := ⟨w.heap.size + 1, 1, none⟩) (by simp only []; omega)).trans x_1
  replace x_2 := (z10.cell (p := ⟨w.heap.size + 1, 2, none⟩) (by simp only []; omega)).trans x_2
  replace x_3 := (z10.cell (p := ⟨w.heap.size + 1, 3, none⟩) (by simp only []; omega)).trans x_3
  replace t_0 := (z10.cell (p := ⟨w9.heap.size, 0, none⟩) (by simp only []; omega)).trans t_0
  replace t_1 := (z10.cell (p := ⟨w9.heap.size, 1, none⟩) (by simp only []; omega)).trans t_1
  replace t_2 := (z10.cell (p := ⟨w9.heap.size, 2, none⟩) (by simp only []; omega)).trans t_2
  obtain ⟨w6, hw6⟩ : ∃ W, W = w10.alloc (.cells #[.string ms, .int .i64 B, .slice vb' vn' vc'] 91) := ⟨_, rfl⟩
  have z6 : Below w10.heap.size w10 w6 := by rw [hw6]; exact (Below.refl _ _).alloc (Nat.le_refl _) _
  have s6 : w6.heap.size = w10.heap.size + 1 := by rw [hw6]; simp
  have hb6 := on hb5 z6
  have old6_b_0 := b_0
  have old6_x_0 := x_0
  have old6_x_1 := x_1
  have old6_x_2 := x_2
  have old6_x_3 := x_3
  have old6_t_0 := t_0
  have old6_t_1 := t_1
  have old6_t_2 := t_2
  replace b_0 := (z6.cell (p := ⟨w.heap.size, 0, none⟩) (by simp only []; omega)).trans b_0
  replace x_0 := (z6.cell (p := ⟨w.heap.size + 1, 0, none⟩) (by simp only []; omega)).trans x_0
  replace x_1 := (z6.cell (p := ⟨w.heap.size + 1, 1, none⟩) (by simp only []; omega)).trans x_1
  replace x_2 := (z6.cell (p := ⟨w.heap.size + 1, 2, none⟩) (by simp only []; omega)).trans x_2
  replace x_3 := (z6.cell (p := ⟨w.heap.size + 1, 3, none⟩) (by simp only []; omega)).trans x_3
  replace t_0 := (z6.cell (p := ⟨w9.heap.size, 0, none⟩) (by simp only []; omega)).trans t_0
  replace t_1 := (z6.cell (p := ⟨w9.heap.size, 1, none⟩) (by simp only []; omega)).trans t_1
  replace t_2 := (z6.cell (p := ⟨w9.heap.size, 2, none⟩) (by simp only []; omega)).trans t_2
  have y_0 : w6.cell? ⟨w10.heap.size, 0, none⟩ = some (.string ms) := by rw [hw6]; exact box_cell (Below.refl _ _) rfl
  have y_1 : w6.cell? ⟨w10.heap.size, 1, none⟩ = some (.int .i64 B) := by rw [hw6]; exact box_cell (Below.refl _ _) rfl
  have y_2 : w6.cell? ⟨w10.heap.size, 2, none⟩ = some (.slice vb' vn' vc') := by rw [hw6]; exact box_cell (Below.refl _ _) rfl
  have raw6_b_0 := b_0
  have raw6_x_0 := x_0
  have raw6_x_1 := x_1
  have raw6_x_2 := x_2
  have raw6_x_3 := x_3
  have raw6_t_0 := t_0
  have raw6_t_1 := t_1
  have raw6_t_2 := t_2
  have raw6_y_0 := y_0
  have raw6_y_1 := y_1
  have raw6_y_2 := y_2
  rw [hw6] at raw6_b_0 raw6_x_0 raw6_x_1 raw6_x_2 raw6_x_3 raw6_t_0 raw6_t_1 raw6_t_2 raw6_y_0 raw6_y_1 raw6_y_2
  cases p with
  | false =>
    go_wp2_with fail
    rw [← hw6]
    clear hw6
    clear old6_b_0 old6_x_0 old6_x_1 old6_x_2 old6_x_3 old6_t_0 old6_t_1 old6_t_2 raw6_b_0 raw6_x_0 raw6_x_1 raw6_x_2 raw6_x_3 raw6_t_0 raw6_t_1 raw6_t_2 raw6_y_0 raw6_y_1 raw6_y_2
    go_wp2_with fail
    go_ret
    exact ⟨ret_bool (by rw [HV.out]; rfl), hb6⟩
  | true =>
    cases q with
    | false =>
      go_wp2_with fail
      rw [← hw6]
      clear hw6
      clear old6_b_0 old6_x_0 old6_x_1 old6_x_2 old6_x_3 old6_t_0 old6_t_1 old6_t_2 raw6_b_0 raw6_x_0 raw6_x_1 raw6_x_2 raw6_x_3 raw6_t_0 raw6_t_1 raw6_t_2 raw6_y_0 raw6_y_1 raw6_y_2
      go_wp2_with fail
      go_ret
      exact ⟨ret_bool (by rw [HV.out]; rfl), hb6⟩
    | true =>
      cases u with
      | false =>
        go_wp2_with fail
        rw [← hw6]
        clear hw6
        clear old6_b_0 old6_x_0 old6_x_1 old6_x_2 old6_x_3 old6_t_0 old6_t_1 old6_t_2 raw6_b_0 raw6_x_0 raw6_x_1 raw6_x_2 raw6_x_3 raw6_t_0 raw6_t_1 raw6_t_2 raw6_y_0 raw6_y_1 raw6_y_2
        refine (l1In_any _ _ _ _).mono ?_
        rintro e w' ⟨rfl, rfl⟩
        rw [hu]
        go_wp2_with fail
        go_ret
        exact ⟨ret_bool (by rw [HV.out]; rfl), hb6⟩
      | true =>
        go_wp2_with fail
        rw [← hw6]
        clear hw6
        clear old6_b_0 old6_x_0 old6_x_1 old6_x_2 old6_x_3 old6_t_0 old6_t_1 old6_t_2 raw6_b_0 raw6_x_0 raw6_x_1 raw6_x_2 raw6_x_3 raw6_t_0 raw6_t_1 raw6_t_2 raw6_y_0 raw6_y_1 raw6_y_2
        refine (l1In_any _ _ _ _).mono ?_
        rintro e w' ⟨rfl, rfl⟩
        rw [hu]
        go_wp2_with fail
        refine (l1In_any _ _ _ _).mono ?_
        rintro e w' ⟨rfl, rfl⟩
        go_wp2_with fail
        go_ret
        exact ⟨ret_bool (by rw [HV.out]; rfl), hb6⟩

end Go.Proofs.Ythhbmbkecaffeaa
