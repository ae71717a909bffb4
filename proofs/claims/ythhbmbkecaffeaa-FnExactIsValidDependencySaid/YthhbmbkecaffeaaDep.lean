/- Contracts: whether a dependency is valid. -/
import Derived.Test.YthhbmbkecaffeaaLookA
import Derived.Test.YthhbmbkecaffeaaKDp
import Derived.Test.YthhbmbkecaffeaaColsOk
import Derived.Test.YthhbmbkecaffeaaHas
namespace Go.Proofs.Ythhbmbkecaffeaa
open Go.RowKit Go.Sort
set_option linter.unusedVariables false
set_option linter.unusedSimpArgs false
set_option synthInstance.maxSize 2000
set_option synthInstance.maxHeartbeats 400000

/-- Whether a dependency is valid. -/
def validDp (db : DDb) (x : DDp) : Bool := (look db x.1).isSome && (colsB (lookT (look db x.1)).2.1 x.2.1 && (betw x.2.2 0 ((lookT (look db x.1)).2.1 - 1) && !has x.2.1 x.2.2))
theorem look_okT {db : DDb} {name : ByteArray} (h : (look db name).isSome = true) : TOk (lookT (look db name)) := by
  cases hL : look db name with
  | none => rw [hL] at h; cases h
  | some t => exact look_ok hL
theorem look_valid {db : DDb} {name : ByteArray} (h : (look db name).isSome = true) : validT (lookT (look db name)) = true := by
  cases hL : look db name with
  | none => rw [hL] at h; cases h
  | some t =>
    unfold look at hL
    split at hL
    · rename_i hv
      refine dbFrom_mem (p := none) (by have h9 := hv; simp only [validDb, Bool.and_eq_true] at h9; exact h9.1) _ (List.mem_of_find?_eq_some hL)
    · cases hL

set_option maxHeartbeats 1000000 in
theorem validDp_impl (cs ds : List Value) (db : DDb) (x : DDp) (w : World) (h : rDb.rep w cs db) (h' : rDp.rep w ds x) :
    Calls Try.prog 40 #[.agg cs.toArray, .agg ds.toArray] w fun e w' => e = .returned (.bool (validDp db x)) ∧ Below w.heap.size w w' := by
  obtain ⟨ub, un, uc, rfl, g1⟩ := rDb_open h
  obtain ⟨fb, fn, fc, rfl, hs0, gf, hi2⟩ := rDp_open h'
  obtain ⟨m1, fr, to⟩ := x
  simp only at hs0 gf hi2
  have i0 := rI_ints gf
  have hA := @lookT_ar db m1
  have hc1 := fun W (hW : Below w.heap.size w W) => lookI_any [.slice ub un uc] db m1 W (rDb.mono h hW)
  have hct := fun (cs : List Value) W (hW : Below w.heap.size w W) (ht : rT.rep W cs (lookT (look db m1))) => l10Cols_any cs (lookT (look db m1)) fb fn fc fr W ht (i0.below hW)
  have HV : Hid (validDp db (m1, fr, to) = ((look db m1).isSome && (colsB (lookT (look db m1)).2.1 fr && (betw to 0 ((lookT (look db m1)).2.1 - 1) && !has fr to)))) := rfl
  have hCT : (look db m1).isSome = true → colsT (lookT (look db m1)) fr = colsB (lookT (look db m1)).2.1 fr := fun h => by rw [colsT, look_valid h, Bool.and_true]
  obtain ⟨p, hp⟩ : ∃ p, (look db m1).isSome = p := ⟨_, rfl⟩
  obtain ⟨t1, ht1⟩ : ∃ t, lookT (look db m1) = t := ⟨_, rfl⟩
  rw [hp, ht1] at HV hCT
  simp only [hp, ht1] at hc1 hA
  simp only [ht1] at hct
  obtain ⟨q, hq⟩ : ∃ q, colsT t1 fr = q := ⟨_, rfl⟩
  rw [hq] at hCT
  simp only [hq] at hct
  obtain ⟨ns, A, r1⟩ := t1
  simp only at hA HV hc1 hCT
  have HC1 := Lib.hid hc1
  have HCT := Lib.hid hct
  have hwA : IntKind.i64.wrap (A - 1) = A - 1 := IntWalk.i64_in _ (by omega)
  obtain ⟨u, hu⟩ : ∃ u, colsB A fr = u := ⟨_, rfl⟩
  obtain ⟨v, hv⟩ : ∃ v, betw to 0 (A - 1) = v := ⟨_, rfl⟩
  obtain ⟨z, hz⟩ : ∃ z, has fr to = z := ⟨_, rfl⟩
  rw [hu] at HV hCT
  rw [hv, hz] at HV
  clear hc1 hct hp ht1 hq h h' g1 gf hs0 hi2
  have hb0 : Below w.heap.size w w := Below.refl _ _
  go_enter Try.func40, Try.ntmps40
  obtain ⟨w1, hw1⟩ : ∃ W, W = w.alloc (.cells #[.slice ub un uc] 49) := ⟨_, rfl⟩
  have z1 : Below w.heap.size w w1 := by rw [hw1]; exact (Below.refl _ _).alloc (Nat.le_refl _) _
  have s1 : w1.heap.size = w.heap.size + 1 := by rw [hw1]; simp
  have hb1 := on hb0 z1
  have b_0 : w1.cell? ⟨w.heap.size, 0, none⟩ = some (.slice ub un uc) := by rw [hw1]; exact box_cell (Below.refl _ _) rfl
  have raw1_b_0 := b_0
  rw [hw1] at raw1_b_0
  obtain ⟨w2, hw2⟩ : ∃ W, W = w1.alloc (.cells #[.string m1, .slice fb fn fc, .int .i64 to] 68) := ⟨_, rfl⟩
  have z2 : Below w1.heap.size w1 w2 := by rw [hw2]; exact (Below.refl _ _).alloc (Nat.le_refl _) _
  have s2 : w2.heap.size = w1.heap.size + 1 := by rw [hw2]; simp
  have hb2 := on hb1 z2
  replace b_0 := (z2.cell (p := ⟨w.heap.size, 0, none⟩) (by simp only []; omega)).trans b_0
  have e2 : w1.heap.size = w.heap.size + 1 := by omega
  have x_0 : w2.cell? ⟨w1.heap.size, 0, none⟩ = some (.string m1) := by rw [hw2]; exact box_cell (Below.refl _ _) rfl
  have x_1 : w2.cell? ⟨w1.heap.size, 1, none⟩ = some (.slice fb fn fc) := by rw [hw2]; exact box_cell (Below.refl _ _) rfl
  have x_2 : w2.cell? ⟨w1.heap.size, 2, none⟩ = some (.int .i64 to) := by rw [hw2]; exact box_cell (Below.refl _ _) rfl
  rw [e2] at x_0 x_1 x_2
  have raw2_b_0 := b_0
  have raw2_x_0 := x_0
  have raw2_x_1 := x_1
  have raw2_x_2 := x_2
  rw [hw2, hw1] at raw2_b_0 raw2_x_0 raw2_x_1 raw2_x_2
  go_wp2_with fail
  rw [← hw1]
  rw [← hw2]
  clear hw2 hw1
  clear raw1_b_0 raw2_b_0 raw2_x_0 raw2_x_1 raw2_x_2
  refine (HC1.out _ hb2).mono ?_
  rintro e w9 ⟨vb, vn, vc, rfl, ho, z9⟩
  have s3 := z9.size
  have hb3 := on hb2 z9
  replace b_0 := (z9.cell (p := ⟨w.heap.size, 0, none⟩) (by simp only []; omega)).trans b_0
  replace x_0 := (z9.cell (p := ⟨w.heap.size + 1, 0, none⟩) (by simp only []; omega)).trans x_0
  replace x_1 := (z9.cell (p := ⟨w.heap.size + 1, 1, none⟩) (by simp only []; omega)).trans x_1
  replace x_2 := (z9.cell (p := ⟨w.heap.size + 1, 2, none⟩) (by simp only []; omega)).trans x_2
  obtain ⟨w4, hw4⟩ : ∃ W, W = w9.alloc (.cells #[.string ns, .int .i64 A, .slice vb vn vc] 91) := ⟨_, rfl⟩
  have z4 : Below w9.heap.size w9 w4 := by rw [hw4]; exact (Below.refl _ _).alloc (Nat.le_refl _) _
  have s4 : w4.heap.size = w9.heap.size + 1 := by rw [hw4]; simp
  have hb4 := on hb3 z4
  have old4_b_0 := b_0
  have old4_x_0 := x_0
  have old4_x_1 := x_1
  have old4_x_2 := x_2
  replace b_0 := (z4.cell (p := ⟨w.heap.size, 0, none⟩) (by simp only []; omega)).trans b_0
  replace x_0 := (z4.cell (p := ⟨w.heap.size + 1, 0, none⟩) (by simp only []; omega)).trans x_0
  replace x_1 := (z4.cell (p := ⟨w.heap.size + 1, 1, none⟩) (by simp only []; omega)).trans x_1
  replace x_2 := (z4.cell (p := ⟨w.heap.size + 1, 2, none⟩) (by simp only []; omega)).trans x_2
  replace ho := ho.below z4 (by omega)
  have t_0 : w4.cell? ⟨w9.heap.size, 0, none⟩ = some (.string ns) := by rw [hw4]; exact box_cell (Below.refl _ _) rfl
  have t_1 : w4.cell? ⟨w9.heap.size, 1, none⟩ = some (.int .i64 A) := by rw [hw4]; exact box_cell (Below.refl _ _) rfl
  have t_2 : w4.cell? ⟨w9.heap.size, 2, none⟩ = some (.slice vb vn vc) := by rw [hw4]; exact box_cell (Below.refl _ _) rfl
  have raw4_b_0 := b_0
  have raw4_x_0 := x_0
  have raw4_x_1 := x_1
  have raw4_x_2 := x_2
  have raw4_t_0 := t_0
  have raw4_t_1 := t_1
  have raw4_t_2 := t_2
  rw [hw4] at raw4_b_0 raw4_x_0 raw4_x_1 raw4_x_2 raw4_t_0 raw4_t_1 raw4_t_2
  cases p with
  | false =>
    go_wp2_with fail
    rw [← hw4]
    clear hw4
    clear old4_b_0 old4_x_0 old4_x_1 old4_x_2 raw4_b_0 raw4_x_0 raw4_x_1 raw4_x_2 raw4_t_0 raw4_t_1 raw4_t_2
    go_wp2_with fail
    go_ret
    exact ⟨ret_bool (by rw [HV.out]; rfl), hb4⟩
  | true =>
    obtain rfl : q = u := hCT rfl
    have i1 := i0.below hb4
    cases q with
    | false =>
      go_wp2_with fail
      rw [← hw4]
      clear hw4
      clear old4_b_0 old4_x_0 old4_x_1 old4_x_2 raw4_b_0 raw4_x_0 raw4_x_1 raw4_x_2 raw4_t_0 raw4_t_1 raw4_t_2
      refine (columnsOk_any _ _ _ _ _ _ i1 ⟨by omega, by omega⟩ (by omega)).mono ?_
      rintro e w' ⟨rfl, rfl⟩
      rw [hu]
      go_wp2_with fail
      go_ret
      exact ⟨ret_bool (by rw [HV.out]; rfl), hb4⟩
    | true =>
      go_wp2_with fail
      rw [← hw4]
      clear hw4
      clear old4_b_0 old4_x_0 old4_x_1 old4_x_2 raw4_b_0 raw4_x_0 raw4_x_1 raw4_x_2 raw4_t_0 raw4_t_1 raw4_t_2
      refine (columnsOk_any _ _ _ _ _ _ i1 ⟨by omega, by omega⟩ (by omega)).mono ?_
      rintro e w' ⟨rfl, rfl⟩
      rw [hu]
      go_wp2_with fail
      refine (within_any _ _ _ _).mono ?_
      rintro e w' ⟨rfl, rfl⟩
      rw [hv]
      cases v with
      | false =>
        go_wp2_with fail
        go_wp2_with fail
        go_ret
        exact ⟨ret_bool (by rw [HV.out]; rfl), hb4⟩
      | true =>
        go_wp2_with fail
        refine (contains_any _ _ _ _ _ _ i1).mono ?_
        rintro e w' ⟨rfl, rfl⟩
        rw [hz]
        go_wp2_with fail
        go_ret
        exact ⟨ret_bool (by rw [HV.out]; rfl), hb4⟩

set_option maxHeartbeats 1000000 in
theorem validDp_spec (cs ds : List Value) (db : DDb) (x : DDp) (w : World) (h : rDb.rep w cs db) (h' : rDp.rep w ds x) :
    Calls Try.prog 38 #[.agg cs.toArray, .agg ds.toArray] w fun e w' => e = .returned (.bool (validDp db x)) ∧ Below w.heap.size w w' := by
  obtain ⟨ub, un, uc, rfl, g1⟩ := rDb_open h
  obtain ⟨fb, fn, fc, rfl, hs0, gf, hi2⟩ := rDp_open h'
  obtain ⟨m1, fr, to⟩ := x
  simp only at hs0 gf hi2
  have i0 := rI_ints gf
  have hA := @lookT_ar db m1
  have hc1 := fun W (hW : Below w.heap.size w W) => lookS_any [.slice ub un uc] db m1 W (rDb.mono h hW)
  have hct := fun (cs : List Value) W (hW : Below w.heap.size w W) (ht : rT.rep W cs (lookT (look db m1))) => l10Cols_any cs (lookT (look db m1)) fb fn fc fr W ht (i0.below hW)
  have HV : Hid (validDp db (m1, fr, to) = ((look db m1).isSome && (colsB (lookT (look db m1)).2.1 fr && (betw to 0 ((lookT (look db m1)).2.1 - 1) && !has fr to)))) := rfl
  have hCT : (look db m1).isSome = true → colsT (lookT (look db m1)) fr = colsB (lookT (look db m1)).2.1 fr := fun h => by rw [colsT, look_valid h, Bool.and_true]
  obtain ⟨p, hp⟩ : ∃ p, (look db m1).isSome = p := ⟨_, rfl⟩
  obtain ⟨t1, ht1⟩ : ∃ t, lookT (look db m1) = t := ⟨_, rfl⟩
  rw [hp, ht1] at HV hCT
  simp only [hp, ht1] at hc1 hA
  simp only [ht1] at hct
  obtain ⟨q, hq⟩ : ∃ q, colsT t1 fr = q := ⟨_, rfl⟩
  rw [hq] at hCT
  simp only [hq] at hct
  obtain ⟨ns, A, r1⟩ := t1
  simp only at hA HV hc1 hCT
  have HC1 := Lib.hid hc1
  have HCT := Lib.hid hct
  have hwA : IntKind.i64.wrap (A - 1) = A - 1 := IntWalk.i64_in _ (by omega)
  obtain ⟨u, hu⟩ : ∃ u, colsB A fr = u := ⟨_, rfl⟩
  obtain ⟨v, hv⟩ : ∃ v, betw to 0 (A - 1) = v := ⟨_, rfl⟩
  obtain ⟨z, hz⟩ : ∃ z, has fr to = z := ⟨_, rfl⟩
  rw [hu] at HV hCT
  rw [hv, hz] at HV
  clear hc1 hct hp ht1 hq h h' g1 gf hs0 hi2
  have hb0 : Below w.heap.size w w := Below.refl _ _
  go_enter Try.func38, Try.ntmps38
  obtain ⟨w1, hw1⟩ : ∃ W, W = w.alloc (.cells #[.slice ub un uc] 49) := ⟨_, rfl⟩
  have z1 : Below w.heap.size w w1 := by rw [hw1]; exact (Below.refl _ _).alloc (Nat.le_refl _) _
  have s1 : w1.heap.size = w.heap.size + 1 := by rw [hw1]; simp
  have hb1 := on hb0 z1
  have b_0 : w1.cell? ⟨w.heap.size, 0, none⟩ = some (.slice ub un uc) := by rw [hw1]; exact box_cell (Below.refl _ _) rfl
  have raw1_b_0 := b_0
  rw [hw1] at raw1_b_0
  obtain ⟨w2, hw2⟩ : ∃ W, W = w1.alloc (.cells #[.string m1, .slice fb fn fc, .int .i64 to] 68) := ⟨_, rfl⟩
  have z2 : Below w1.heap.size w1 w2 := by rw [hw2]; exact (Below.refl _ _).alloc (Nat.le_refl _) _
  have s2 : w2.heap.size = w1.heap.size + 1 := by rw [hw2]; simp
  have hb2 := on hb1 z2
  replace b_0 := (z2.cell (p := ⟨w.heap.size, 0, none⟩) (by simp only []; omega)).trans b_0
  have e2 : w1.heap.size = w.heap.size + 1 := by omega
  have x_0 : w2.cell? ⟨w1.heap.size, 0, none⟩ = some (.string m1) := by rw [hw2]; exact box_cell (Below.refl _ _) rfl
  have x_1 : w2.cell? ⟨w1.heap.size, 1, none⟩ = some (.slice fb fn fc) := by rw [hw2]; exact box_cell (Below.refl _ _) rfl
  have x_2 : w2.cell? ⟨w1.heap.size, 2, none⟩ = some (.int .i64 to) := by rw [hw2]; exact box_cell (Below.refl _ _) rfl
  rw [e2] at x_0 x_1 x_2
  have raw2_b_0 := b_0
  have raw2_x_0 := x_0
  have raw2_x_1 := x_1
  have raw2_x_2 := x_2
  rw [hw2, hw1] at raw2_b_0 raw2_x_0 raw2_x_1 raw2_x_2
  go_wp2_with fail
  rw [← hw1]
  rw [← hw2]
  clear hw2 hw1
  clear raw1_b_0 raw2_b_0 raw2_x_0 raw2_x_1 raw2_x_2
  refine (HC1.out _ hb2).mono ?_
  rintro e w9 ⟨vb, vn, vc, rfl, ho, z9⟩
  have s3 := z9.size
  have hb3 := on hb2 z9
  replace b_0 := (z9.cell (p := ⟨w.heap.size, 0, none⟩) (by simp only []; omega)).trans b_0
  replace x_0 := (z9.cell (p := ⟨w.heap.size + 1, 0, none⟩) (by simp only []; omega)).trans x_0
  replace x_1 := (z9.cell (p := ⟨w.heap.size + 1, 1, none⟩) (by simp only []; omega)).trans x_1
  replace x_2 := (z9.cell (p := ⟨w.heap.size + 1, 2, none⟩) (by simp only []; omega)).trans x_2
  obtain ⟨w4, hw4⟩ : ∃ W, W = w9.alloc (.cells #[.string ns, .int .i64 A, .slice vb vn vc] 91) := ⟨_, rfl⟩
  have z4 : Below w9.heap.size w9 w4 := by rw [hw4]; exact (Below.refl _ _).alloc (Nat.le_refl _) _
  have s4 : w4.heap.size = w9.heap.size + 1 := by rw [hw4]; simp
  have hb4 := on hb3 z4
  have old4_b_0 := b_0
  have old4_x_0 := x_0
  have old4_x_1 := x_1
  have old4_x_2 := x_2
  replace b_0 := (z4.cell (p := ⟨w.heap.size, 0, none⟩) (by simp only []; omega)).trans b_0
  replace x_0 := (z4.cell (p := ⟨w.heap.size + 1, 0, none⟩) (by simp only []; omega)).trans x_0
  replace x_1 := (z4.cell (p := ⟨w.heap.size + 1, 1, none⟩) (by simp only []; omega)).trans x_1
  replace x_2 := (z4.cell (p := ⟨w.heap.size + 1, 2, none⟩) (by simp only []; omega)).trans x_2
  replace ho := ho.below z4 (by omega)
  have t_0 : w4.cell? ⟨w9.heap.size, 0, none⟩ = some (.string ns) := by rw [hw4]; exact box_cell (Below.refl _ _) rfl
  have t_1 : w4.cell? ⟨w9.heap.size, 1, none⟩ = some (.int .i64 A) := by rw [hw4]; exact box_cell (Below.refl _ _) rfl
  have t_2 : w4.cell? ⟨w9.heap.size, 2, none⟩ = some (.slice vb vn vc) := by rw [hw4]; exact box_cell (Below.refl _ _) rfl
  have raw4_b_0 := b_0
  have raw4_x_0 := x_0
  have raw4_x_1 := x_1
  have raw4_x_2 := x_2
  have raw4_t_0 := t_0
  have raw4_t_1 := t_1
  have raw4_t_2 := t_2
  rw [hw4] at raw4_b_0 raw4_x_0 raw4_x_1 raw4_x_2 raw4_t_0 raw4_t_1 raw4_t_2
  cases p with
  | false =>
    go_wp2_with fail
    rw [← hw4]
    clear hw4
    clear old4_b_0 old4_x_0 old4_x_1 old4_x_2 raw4_b_0 raw4_x_0 raw4_x_1 raw4_x_2 raw4_t_0 raw4_t_1 raw4_t_2
    go_wp2_with fail
    go_ret
    exact ⟨ret_bool (by rw [HV.out]; rfl), hb4⟩
  | true =>
    obtain rfl : q = u := hCT rfl
    have i1 := i0.below hb4
    go_wp2_with fail
    rw [← hw4]
    clear hw4
    clear old4_b_0 old4_x_0 old4_x_1 old4_x_2 raw4_b_0 raw4_x_0 raw4_x_1 raw4_x_2 raw4_t_0 raw4_t_1 raw4_t_2
    refine (HCT.out _ _ hb4 (ho.rd reads_T)).mono ?_
    rintro e w10 ⟨rfl, z10⟩
    have s5 := z10.size
    have hb5 := on hb4 z10
    replace b_0 := (z10.cell (p := ⟨w.heap.size, 0, none⟩) (by simp only []; omega)).trans b_0
    replace x_0 := (z10.cell (p := ⟨w.heap.size + 1, 0, none⟩) (by simp only []; omega)).trans x_0
    replace x_1 := (z10.cell (p := ⟨w.heap.size + 1, 1, none⟩) (by simp only []; omega)).trans x_1
    replace x_2 := (z10.cell (p := ⟨w.heap.size + 1, 2, none⟩) (by simp only []; omega)).trans x_2
    replace ho := ho.below z10 (by omega)
    replace t_0 := (z10.cell (p := ⟨w9.heap.size, 0, none⟩) (by simp only []; omega)).trans t_0
    replace t_1 := (z10.cell (p := ⟨w9.heap.size, 1, none⟩) (by simp only []; omega)).trans t_1
    replace t_2 := (z10.cell (p := ⟨w9.heap.size, 2, none⟩) (by simp only []; omega)).trans t_2
    clear i1
    have i1 := i0.below hb5
    cases q with
    | false =>
      go_wp2_with fail
      go_wp2_with fail
      go_ret
      exact ⟨ret_bool (by rw [HV.out]; rfl), hb5⟩
    | true =>
      go_wp2_with fail
      go_wp2_with fail
      refine (l1In_any _ _ _ _).mono ?_
      rintro e w' ⟨rfl, rfl⟩
      rw [hv]
      cases v with
      | false =>
        go_wp2_with fail
        go_wp2_with fail
        go_ret
        exact ⟨ret_bool (by rw [HV.out]; rfl), hb5⟩
      | true =>
        go_wp2_with fail
        refine (l7Has_any _ _ _ _ _ _ i1).mono ?_
        rintro e w' ⟨rfl, rfl⟩
        rw [hz]
        go_wp2_with fail
        go_ret
        exact ⟨ret_bool (by rw [HV.out]; rfl), hb5⟩

end Go.Proofs.Ythhbmbkecaffeaa
