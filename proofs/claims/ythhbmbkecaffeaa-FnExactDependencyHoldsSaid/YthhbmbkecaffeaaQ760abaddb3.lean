/- Texts joined for one claim: For, ViolP, ViolI, ViolS, LDependencyHolds, FDependencyHolds. -/
import Derived.Test.YthhbmbkecaffeaaQ5cd45defb4
import Derived.Deep.RegionHeld3

/- Contracts: whether a query is one for a database. -/
namespace Go.Proofs.Ythhbmbkecaffeaa
open Go.RowKit Go.Sort
set_option linter.unusedVariables false
set_option linter.unusedSimpArgs false
set_option synthInstance.maxSize 2000
set_option synthInstance.maxHeartbeats 400000

/-- Whether atoms are for tables of a database. -/
def forFrom (db : DDb) : List DA → Bool
  | [] => true
  | a :: t => (look db a.1).isSome && (decide ((lookT (look db a.1)).2.1 = (a.2.length : Int)) && forFrom db t)
/-- Whether a query is valid, and for a database. -/
def queryFor (db : DDb) (q : DQ) : Bool := validQ q && forFrom db q.2
theorem for_at {db : DDb} {xs : List DA} {j : Nat} {a : DA} (h : xs[j]? = some a) : forFrom db (xs.drop j) = ((look db a.1).isSome && (decide ((lookT (look db a.1)).2.1 = (a.2.length : Int)) && forFrom db (xs.drop (j + 1)))) := by
  rw [drop_at h]; rfl
theorem for_end {db : DDb} {xs : List DA} {j : Nat} (h : xs.length ≤ j) : forFrom db (xs.drop j) = true := by
  rw [List.drop_eq_nil_of_le h]; rfl
/-- What a new block leaves. -/
theorem cell_box {W : World} {p : Addr} {v : Value} {x : Obj} (h : W.cell? p = some v) : (W.alloc x).cell? p = some v :=
  (((Below.refl W.heap.size W).alloc (Nat.le_refl _) x).cell (cell_lt h)).trans h
theorem cell_setBox {W : World} {p q : Addr} {v u : Value} (h : W.cell? p = some v) (hp : p.block < q.block) : (W.setCell q u).cell? p = some v :=
  ((Below.setCell (Below.refl q.block W) (Nat.le_refl _) u).cell hp).trans h
theorem cell_set3 {W : World} {p : Addr} {v u0 u1 u2 : Value} {g o0 o1 o2 : Nat} (h : W.cell? p = some v) (hp : p.block < g) : (((W.setCell ⟨g, o0, none⟩ u0).setCell ⟨g, o1, none⟩ u1).setCell ⟨g, o2, none⟩ u2).cell? p = some v :=
  cell_setBox (cell_setBox (cell_setBox h hp) hp) hp

set_option maxHeartbeats 2000000 in
theorem queryFor_impl (cs ds : List Value) (db : DDb) (x : DQ) (w : World) (h : rDb.rep w cs db) (h' : rQ.rep w ds x) :
    Calls Try.prog 45 #[.agg cs.toArray, .agg ds.toArray] w fun e w' => e = .returned (.bool (queryFor db x)) ∧ Below w.heap.size w w' := by
  obtain ⟨ub, un, uc, rfl, g1⟩ := rDb_open h
  obtain ⟨qb, qn, qc, rfl, hi2, gq⟩ := rQ_open h'
  have hcq := fun W (hW : Below w.heap.size w W) => validQ_impl _ x W (rQ.mono h' hW)
  have hck := fun name W (hW : Below w.heap.size w W) => lookI_any [.slice ub un uc] db name W (rDb.mono h hW)
  obtain ⟨vq, xs⟩ := x
  simp only at hi2 gq hcq
  have t1 := rS_sl gq
  have hl := t1.len
  have hn := t1.small
  obtain ⟨p, hp⟩ : ∃ p, validQ (vq, xs) = p := ⟨_, rfl⟩
  have HV : Hid (queryFor db (vq, xs) = (p && forFrom db (xs.drop 0))) := Lib.hid (by simp [queryFor, hp])
  simp only [hp] at hcq
  have HCQ := Lib.hid hcq
  have HCK := Lib.hid hck
  clear hcq hck h h' g1 gq hi2 hp
  have hb0 : Below w.heap.size w w := Below.refl _ _
  go_enter Try.func45, Try.ntmps45
  obtain ⟨w1, hw1⟩ : ∃ W, W = w.alloc (.cells #[.slice ub un uc] 49) := ⟨_, rfl⟩
  have z1 : Below w.heap.size w w1 := by rw [hw1]; exact (Below.refl _ _).alloc (Nat.le_refl _) _
  have s1 : w1.heap.size = w.heap.size + 1 := by rw [hw1]; simp
  have hb1 := on hb0 z1
  have b_0 : w1.cell? ⟨w.heap.size, 0, none⟩ = some (.slice ub un uc) := by rw [hw1]; exact box_cell (Below.refl _ _) rfl
  have raw1_b_0 := b_0
  rw [hw1] at raw1_b_0
  obtain ⟨w2, hw2⟩ : ∃ W, W = w1.alloc (.cells #[.int .i64 vq, .slice qb qn qc] 29) := ⟨_, rfl⟩
  have z2 : Below w1.heap.size w1 w2 := by rw [hw2]; exact (Below.refl _ _).alloc (Nat.le_refl _) _
  have s2 : w2.heap.size = w1.heap.size + 1 := by rw [hw2]; simp
  have hb2 := on hb1 z2
  replace b_0 := (z2.cell (p := ⟨w.heap.size, 0, none⟩) (by simp only []; omega)).trans b_0
  have e2 : w1.heap.size = w.heap.size + 1 := by omega
  have q_0 : w2.cell? ⟨w1.heap.size, 0, none⟩ = some (.int .i64 vq) := by rw [hw2]; exact box_cell (Below.refl _ _) rfl
  have q_1 : w2.cell? ⟨w1.heap.size, 1, none⟩ = some (.slice qb qn qc) := by rw [hw2]; exact box_cell (Below.refl _ _) rfl
  rw [e2] at q_0 q_1
  have raw2_b_0 := b_0
  have raw2_q_0 := q_0
  have raw2_q_1 := q_1
  rw [hw2, hw1] at raw2_b_0 raw2_q_0 raw2_q_1
  go_wp2_with fail
  rw [← hw1]
  rw [← hw2]
  clear hw2 hw1
  clear raw1_b_0 raw2_b_0 raw2_q_0 raw2_q_1
  refine (HCQ.out _ hb2).mono ?_
  rintro e w9 ⟨rfl, z9⟩
  have s3 := z9.size
  have hb3 := on hb2 z9
  replace b_0 := (z9.cell (p := ⟨w.heap.size, 0, none⟩) (by simp only []; omega)).trans b_0
  replace q_0 := (z9.cell (p := ⟨w.heap.size + 1, 0, none⟩) (by simp only []; omega)).trans q_0
  replace q_1 := (z9.cell (p := ⟨w.heap.size + 1, 1, none⟩) (by simp only []; omega)).trans q_1
  cases p with
  | false =>
    go_wp2_with fail
    go_wp2_with fail
    go_ret
    exact ⟨ret_bool (by rw [HV.out]; rfl), hb3⟩
  | true =>
    have HV2 : Hid (queryFor db (vq, xs) = forFrom db (xs.drop 0)) := Lib.hid (by rw [HV.out]; simp)
    clear HV
    go_wp2_with fail
    go_loopw [15] (fun k wr => ∃ j : Nat, j ≤ qn ∧ k = .int .i64 j ∧ Hid (queryFor db (vq, xs) = forFrom db (xs.drop j)) ∧ Below w9.heap.size w9 wr) (fun k _ => qn - (intOf k).toNat)
    case atStart => exact ⟨0, Nat.zero_le _, rfl, HV2.out, Below.refl _ _⟩
    case round =>
      obtain ⟨j, hj, rfl, hE, hdr⟩ := hrel
      have hlc := hdr
      have s4 := hdr.size
      have hb4 := on hb3 hdr
      replace b_0 := (hdr.cell (p := ⟨w.heap.size, 0, none⟩) (by simp only []; omega)).trans b_0
      replace q_0 := (hdr.cell (p := ⟨w.heap.size + 1, 0, none⟩) (by simp only []; omega)).trans q_0
      replace q_1 := (hdr.cell (p := ⟨w.heap.size + 1, 1, none⟩) (by simp only []; omega)).trans q_1
      by_cases hlt : j < qn
      · obtain ⟨b1, o1, cs, a, rfl, hx, hr, hc⟩ := t1.at hlt
        obtain ⟨m1, vs⟩ := a
        obtain ⟨vb, vn, vc, rfl, hs, gv⟩ := rA_open hr
        simp only at hs gv
        have hvl := (rI_ints gv).len
        have hA := @lookT_ar db m1
        have HA := Lib.hid (hE.out.trans (for_at hx.out))
        simp only at HA
        have hc1 := fun W (hW : Below w.heap.size w W) => HCK.out m1 W hW
        obtain ⟨s, hs9⟩ : ∃ s, (look db m1).isSome = s := ⟨_, rfl⟩
        obtain ⟨t, ht⟩ : ∃ t, lookT (look db m1) = t := ⟨_, rfl⟩
        rw [hs9, ht, hvl] at HA
        simp only [hs9, ht] at hc1 hA
        obtain ⟨ns, A, r1⟩ := t
        simp only at hA HA hc1
        have HC1 := Lib.hid hc1
        have e_lt : b1 < w.heap.size := cell_lt (hc 0 _ rfl)
        have e_0 : wr.cell? ⟨b1, o1 + j * 2, none⟩ = some (.string m1) := (hb4.cell (p := ⟨b1, o1 + j * 2, none⟩) e_lt).trans (by have h9 := hc 0 _ rfl; rw [← Nat.add_assoc] at h9; exact h9)
        have e_1 : wr.cell? ⟨b1, o1 + j * 2 + 1, none⟩ = some (.slice vb vn vc) := (hb4.cell (p := ⟨b1, o1 + j * 2 + 1, none⟩) e_lt).trans (by have h9 := hc 1 _ rfl; rw [← Nat.add_assoc] at h9; exact h9)
        clear hc hx hr gv hvl hs hs9 ht hc1 hE
        obtain ⟨w5, hw5⟩ : ∃ W, W = wr.alloc (.cells #[.string m1, .slice vb vn vc] 80) := ⟨_, rfl⟩
        have z5 : Below wr.heap.size wr w5 := by rw [hw5]; exact (Below.refl _ _).alloc (Nat.le_refl _) _
        have s5 : w5.heap.size = wr.heap.size + 1 := by rw [hw5]; simp
        have hb5 := on hb4 z5
        have old5_b_0 := b_0
        have old5_q_0 := q_0
        have old5_q_1 := q_1
        have old5_e_0 := e_0
        have old5_e_1 := e_1
        replace b_0 := (z5.cell (p := ⟨w.heap.size, 0, none⟩) (by simp only []; omega)).trans b_0
        replace q_0 := (z5.cell (p := ⟨w.heap.size + 1, 0, none⟩) (by simp only []; omega)).trans q_0
        replace q_1 := (z5.cell (p := ⟨w.heap.size + 1, 1, none⟩) (by simp only []; omega)).trans q_1
        replace hlc := on hlc z5
        replace e_0 := (z5.cell (p := ⟨b1, o1 + j * 2, none⟩) (by simp only []; omega)).trans e_0
        replace e_1 := (z5.cell (p := ⟨b1, o1 + j * 2 + 1, none⟩) (by simp only []; omega)).trans e_1
        have ab_0 : w5.cell? ⟨wr.heap.size, 0, none⟩ = some (.string m1) := by rw [hw5]; exact box_cell (Below.refl _ _) rfl
        have ab_1 : w5.cell? ⟨wr.heap.size, 1, none⟩ = some (.slice vb vn vc) := by rw [hw5]; exact box_cell (Below.refl _ _) rfl
        have raw5_b_0 := b_0
        have raw5_q_0 := q_0
        have raw5_q_1 := q_1
        have raw5_e_0 := e_0
        have raw5_e_1 := e_1
        have raw5_ab_0 := ab_0
        have raw5_ab_1 := ab_1
        rw [hw5] at raw5_b_0 raw5_q_0 raw5_q_1 raw5_e_0 raw5_e_1 raw5_ab_0 raw5_ab_1
        go_wp2_with fail
        rw [← hw5]
        clear hw5
        clear old5_b_0 old5_q_0 old5_q_1 old5_e_0 old5_e_1 raw5_b_0 raw5_q_0 raw5_q_1 raw5_e_0 raw5_e_1 raw5_ab_0 raw5_ab_1
        refine (HC1.out _ hb5).mono ?_
        rintro e w10 ⟨vb', vn', vc', rfl, _, z10⟩
        have s6 := z10.size
        have hb6 := on hb5 z10
        replace b_0 := (z10.cell (p := ⟨w.heap.size, 0, none⟩) (by simp only []; omega)).trans b_0
        replace q_0 := (z10.cell (p := ⟨w.heap.size + 1, 0, none⟩) (by simp only []; omega)).trans q_0
        replace q_1 := (z10.cell (p := ⟨w.heap.size + 1, 1, none⟩) (by simp only []; omega)).trans q_1
        replace hlc := on hlc z10
        replace e_0 := (z10.cell (p := ⟨b1, o1 + j * 2, none⟩) (by simp only []; omega)).trans e_0
        replace e_1 := (z10.cell (p := ⟨b1, o1 + j * 2 + 1, none⟩) (by simp only []; omega)).trans e_1
        replace ab_0 := (z10.cell (p := ⟨wr.heap.size, 0, none⟩) (by simp only []; omega)).trans ab_0
        replace ab_1 := (z10.cell (p := ⟨wr.heap.size, 1, none⟩) (by simp only []; omega)).trans ab_1
        obtain ⟨w7, hw7⟩ : ∃ W, W = w10.alloc (.cells #[.string ns, .int .i64 A, .slice vb' vn' vc'] 91) := ⟨_, rfl⟩
        have z7 : Below w10.heap.size w10 w7 := by rw [hw7]; exact (Below.refl _ _).alloc (Nat.le_refl _) _
        have s7 : w7.heap.size = w10.heap.size + 1 := by rw [hw7]; simp
        have hb7 := on hb6 z7
        have old7_b_0 := b_0
        have old7_q_0 := q_0
        have old7_q_1 := q_1
        have old7_e_0 := e_0
        have old7_e_1 := e_1
        have old7_ab_0 := ab_0
        have old7_ab_1 := ab_1
        replace b_0 := (z7.cell (p := ⟨w.heap.size, 0, none⟩) (by simp only []; omega)).trans b_0
        replace q_0 := (z7.cell (p := ⟨w.heap.size + 1, 0, none⟩) (by simp only []; omega)).trans q_0
        replace q_1 := (z7.cell (p := ⟨w.heap.size + 1, 1, none⟩) (by simp only []; omega)).trans q_1
        replace hlc := on hlc z7
        replace e_0 := (z7.cell (p := ⟨b1, o1 + j * 2, none⟩) (by simp only []; omega)).trans e_0
        replace e_1 := (z7.cell (p := ⟨b1, o1 + j * 2 + 1, none⟩) (by simp only []; omega)).trans e_1
        replace ab_0 := (z7.cell (p := ⟨wr.heap.size, 0, none⟩) (by simp only []; omega)).trans ab_0
        replace ab_1 := (z7.cell (p := ⟨wr.heap.size, 1, none⟩) (by simp only []; omega)).trans ab_1
        have t_0 : w7.cell? ⟨w10.heap.size, 0, none⟩ = some (.string ns) := by rw [hw7]; exact box_cell (Below.refl _ _) rfl
        have t_1 : w7.cell? ⟨w10.heap.size, 1, none⟩ = some (.int .i64 A) := by rw [hw7]; exact box_cell (Below.refl _ _) rfl
        have t_2 : w7.cell? ⟨w10.heap.size, 2, none⟩ = some (.slice vb' vn' vc') := by rw [hw7]; exact box_cell (Below.refl _ _) rfl
        have raw7_b_0 := b_0
        have raw7_q_0 := q_0
        have raw7_q_1 := q_1
        have raw7_e_0 := e_0
        have raw7_e_1 := e_1
        have raw7_ab_0 := ab_0
        have raw7_ab_1 := ab_1
        have raw7_t_0 := t_0
        have raw7_t_1 := t_1
        have raw7_t_2 := t_2
        rw [hw7] at raw7_b_0 raw7_q_0 raw7_q_1 raw7_e_0 raw7_e_1 raw7_ab_0 raw7_ab_1 raw7_t_0 raw7_t_1 raw7_t_2
        cases s with
        | false =>
          go_wp2_with fail
          rw [← hw7]
          clear hw7
          clear old7_b_0 old7_q_0 old7_q_1 old7_e_0 old7_e_1 old7_ab_0 old7_ab_1 raw7_b_0 raw7_q_0 raw7_q_1 raw7_e_0 raw7_e_1 raw7_ab_0 raw7_ab_1 raw7_t_0 raw7_t_1 raw7_t_2
          go_wp2_with fail
          go_ret
          exact ⟨ret_bool (by rw [HA.out]; rfl), hb7⟩
        | true =>
          by_cases hd : A = (vn : Int)
          · have hd2 : (A == (vn : Int)) = true := by rw [beq_iff_eq]; exact hd
            have HE : Hid (queryFor db (vq, xs) = forFrom db (xs.drop (j + 1))) := Lib.hid (by rw [HA.out, decide_eq_true hd]; simp)
            clear hd HA
            go_wp2_with fail
            rw [← hw7]
            clear hw7
            clear old7_b_0 old7_q_0 old7_q_1 old7_e_0 old7_e_1 old7_ab_0 old7_ab_1 raw7_b_0 raw7_q_0 raw7_q_1 raw7_e_0 raw7_e_1 raw7_ab_0 raw7_ab_1 raw7_t_0 raw7_t_1 raw7_t_2
            go_roundw
            case rel => exact ⟨j + 1, by omega, by go_num, HE.out, hlc⟩
            case measure => simp [intOf]; omega
          · have HE : Hid (queryFor db (vq, xs) = false) := Lib.hid (by rw [HA.out, decide_eq_false hd]; simp)
            have hd2 : (A == (vn : Int)) = false := by rw [beq_eq_false_iff_ne]; exact hd
            go_wp2_with fail
            rw [← hw7]
            clear hw7
            clear old7_b_0 old7_q_0 old7_q_1 old7_e_0 old7_e_1 old7_ab_0 old7_ab_1 raw7_b_0 raw7_q_0 raw7_q_1 raw7_e_0 raw7_e_1 raw7_ab_0 raw7_ab_1 raw7_t_0 raw7_t_1 raw7_t_2
            go_wp2_with fail
            go_ret
            exact ⟨ret_bool HE.out.symm, hb7⟩
      · have HE : Hid (queryFor db (vq, xs) = true) := Lib.hid (by rw [hE.out, for_end (by omega)])
        clear hE t1 hl
        go_wp2_with fail
        go_ret
        exact ⟨ret_bool HE.out.symm, hb4⟩

set_option maxHeartbeats 2000000 in
theorem queryFor_spec (cs ds : List Value) (db : DDb) (x : DQ) (w : World) (h : rDb.rep w cs db) (h' : rQ.rep w ds x) :
    Calls Try.prog 44 #[.agg cs.toArray, .agg ds.toArray] w fun e w' => e = .returned (.bool (queryFor db x)) ∧ Below w.heap.size w w' := by
  obtain ⟨ub, un, uc, rfl, g1⟩ := rDb_open h
  obtain ⟨qb, qn, qc, rfl, hi2, gq⟩ := rQ_open h'
  have hcq := fun W (hW : Below w.heap.size w W) => validQ_spec _ x W (rQ.mono h' hW)
  have hck := fun name W (hW : Below w.heap.size w W) => lookS_any [.slice ub un uc] db name W (rDb.mono h hW)
  obtain ⟨vq, xs⟩ := x
  simp only at hi2 gq hcq
  have t1 := rS_sl gq
  have hl := t1.len
  have hn := t1.small
  obtain ⟨p, hp⟩ : ∃ p, validQ (vq, xs) = p := ⟨_, rfl⟩
  have HV : Hid (queryFor db (vq, xs) = (p && forFrom db (xs.drop 0))) := Lib.hid (by simp [queryFor, hp])
  simp only [hp] at hcq
  have HCQ := Lib.hid hcq
  have HCK := Lib.hid hck
  clear hcq hck h h' g1 gq hi2 hp
  have hb0 : Below w.heap.size w w := Below.refl _ _
  go_enter Try.func44, Try.ntmps44
  obtain ⟨w1, hw1⟩ : ∃ W, W = w.alloc (.cells #[.slice ub un uc] 49) := ⟨_, rfl⟩
  have z1 : Below w.heap.size w w1 := by rw [hw1]; exact (Below.refl _ _).alloc (Nat.le_refl _) _
  have s1 : w1.heap.size = w.heap.size + 1 := by rw [hw1]; simp
  have hb1 := on hb0 z1
  have b_0 : w1.cell? ⟨w.heap.size, 0, none⟩ = some (.slice ub un uc) := by rw [hw1]; exact box_cell (Below.refl _ _) rfl
  have raw1_b_0 := b_0
  rw [hw1] at raw1_b_0
  obtain ⟨w2, hw2⟩ : ∃ W, W = w1.alloc (.cells #[.int .i64 vq, .slice qb qn qc] 29) := ⟨_, rfl⟩
  have z2 : Below w1.heap.size w1 w2 := by rw [hw2]; exact (Below.refl _ _).alloc (Nat.le_refl _) _
  have s2 : w2.heap.size = w1.heap.size + 1 := by rw [hw2]; simp
  have hb2 := on hb1 z2
  replace b_0 := (z2.cell (p := ⟨w.heap.size, 0, none⟩) (by simp only []; omega)).trans b_0
  have e2 : w1.heap.size = w.heap.size + 1 := by omega
  have q_0 : w2.cell? ⟨w1.heap.size, 0, none⟩ = some (.int .i64 vq) := by rw [hw2]; exact box_cell (Below.refl _ _) rfl
  have q_1 : w2.cell? ⟨w1.heap.size, 1, none⟩ = some (.slice qb qn qc) := by rw [hw2]; exact box_cell (Below.refl _ _) rfl
  rw [e2] at q_0 q_1
  have raw2_b_0 := b_0
  have raw2_q_0 := q_0
  have raw2_q_1 := q_1
  rw [hw2, hw1] at raw2_b_0 raw2_q_0 raw2_q_1
  go_wp2_with fail
  rw [← hw1]
  rw [← hw2]
  clear hw2 hw1
  clear raw1_b_0 raw2_b_0 raw2_q_0 raw2_q_1
  refine (HCQ.out _ hb2).mono ?_
  rintro e w9 ⟨rfl, z9⟩
  have s3 := z9.size
  have hb3 := on hb2 z9
  replace b_0 := (z9.cell (p := ⟨w.heap.size, 0, none⟩) (by simp only []; omega)).trans b_0
  replace q_0 := (z9.cell (p := ⟨w.heap.size + 1, 0, none⟩) (by simp only []; omega)).trans q_0
  replace q_1 := (z9.cell (p := ⟨w.heap.size + 1, 1, none⟩) (by simp only []; omega)).trans q_1
  cases p with
  | false =>
    go_wp2_with fail
    go_wp2_with fail
    go_ret
    exact ⟨ret_bool (by rw [HV.out]; rfl), hb3⟩
  | true =>
    have HV2 : Hid (queryFor db (vq, xs) = forFrom db (xs.drop 0)) := Lib.hid (by rw [HV.out]; simp)
    clear HV
    go_wp2_with fail
    go_loopw [5] (fun k wr => ∃ j : Nat, j ≤ qn ∧ k = .int .i64 j ∧ Hid (queryFor db (vq, xs) = forFrom db (xs.drop j)) ∧ Below w9.heap.size w9 wr) (fun k _ => qn - (intOf k).toNat)
    case atStart => exact ⟨0, Nat.zero_le _, rfl, HV2.out, Below.refl _ _⟩
    case round =>
      obtain ⟨j, hj, rfl, hE, hdr⟩ := hrel
      have hlc := hdr
      have s4 := hdr.size
      have hb4 := on hb3 hdr
      replace b_0 := (hdr.cell (p := ⟨w.heap.size, 0, none⟩) (by simp only []; omega)).trans b_0
      replace q_0 := (hdr.cell (p := ⟨w.heap.size + 1, 0, none⟩) (by simp only []; omega)).trans q_0
      replace q_1 := (hdr.cell (p := ⟨w.heap.size + 1, 1, none⟩) (by simp only []; omega)).trans q_1
      by_cases hlt : j < qn
      · obtain ⟨b1, o1, cs, a, rfl, hx, hr, hc⟩ := t1.at hlt
        obtain ⟨m1, vs⟩ := a
        obtain ⟨vb, vn, vc, rfl, hs, gv⟩ := rA_open hr
        simp only at hs gv
        have hvl := (rI_ints gv).len
        have hA := @lookT_ar db m1
        have HA := Lib.hid (hE.out.trans (for_at hx.out))
        simp only at HA
        have hc1 := fun W (hW : Below w.heap.size w W) => HCK.out m1 W hW
        obtain ⟨s, hs9⟩ : ∃ s, (look db m1).isSome = s := ⟨_, rfl⟩
        obtain ⟨t, ht⟩ : ∃ t, lookT (look db m1) = t := ⟨_, rfl⟩
        rw [hs9, ht, hvl] at HA
        simp only [hs9, ht] at hc1 hA
        obtain ⟨ns, A, r1⟩ := t
        simp only at hA HA hc1
        have HC1 := Lib.hid hc1
        have e_lt : b1 < w.heap.size := cell_lt (hc 0 _ rfl)
        have e_0 : wr.cell? ⟨b1, o1 + j * 2, none⟩ = some (.string m1) := (hb4.cell (p := ⟨b1, o1 + j * 2, none⟩) e_lt).trans (by have h9 := hc 0 _ rfl; rw [← Nat.add_assoc] at h9; exact h9)
        have e_1 : wr.cell? ⟨b1, o1 + j * 2 + 1, none⟩ = some (.slice vb vn vc) := (hb4.cell (p := ⟨b1, o1 + j * 2 + 1, none⟩) e_lt).trans (by have h9 := hc 1 _ rfl; rw [← Nat.add_assoc] at h9; exact h9)
        clear hc hx hr gv hvl hs hs9 ht hc1 hE
        have hbd := (hb4).drew
        have hsz : wr.drew.heap.size = wr.heap.size := rfl
        have hbn : Below w.heap.size w (wr.alloc (.cells #[.string ⟨#[]⟩, .int .i64 0, .slice none 0 0] 91)).drew := ((hb4).alloc (by omega) _).drew
        have hsn : (wr.alloc (.cells #[.string ⟨#[]⟩, .int .i64 0, .slice none 0 0] 91)).drew.heap.size = wr.heap.size + 1 := by show (wr.alloc _).heap.size = _; simp
        have n_0 : (wr.alloc (.cells #[.string ⟨#[]⟩, .int .i64 0, .slice none 0 0] 91)).drew.cell? ⟨wr.heap.size, 0, none⟩ = some (.string ⟨#[]⟩) := box_cell (cs := #[.string ⟨#[]⟩, .int .i64 0, .slice none 0 0]) (T := 91) (i := 0) (Below.refl _ _).drew rfl
        have n_1 : (wr.alloc (.cells #[.string ⟨#[]⟩, .int .i64 0, .slice none 0 0] 91)).drew.cell? ⟨wr.heap.size, 1, none⟩ = some (.int .i64 0) := box_cell (cs := #[.string ⟨#[]⟩, .int .i64 0, .slice none 0 0]) (T := 91) (i := 1) (Below.refl _ _).drew rfl
        have n_2 : (wr.alloc (.cells #[.string ⟨#[]⟩, .int .i64 0, .slice none 0 0] 91)).drew.cell? ⟨wr.heap.size, 2, none⟩ = some (.slice none 0 0) := box_cell (cs := #[.string ⟨#[]⟩, .int .i64 0, .slice none 0 0]) (T := 91) (i := 2) (Below.refl _ _).drew rfl
        have f_0 : (wr.alloc (.cells #[.string ⟨#[]⟩, .int .i64 0, .slice none 0 0] 91)).drew.frozen? ⟨wr.heap.size, 0, none⟩ = false := box_frozen (cs := #[.string ⟨#[]⟩, .int .i64 0, .slice none 0 0]) (T := 91) (Below.refl _ _).drew
        have f_1 : (wr.alloc (.cells #[.string ⟨#[]⟩, .int .i64 0, .slice none 0 0] 91)).drew.frozen? ⟨wr.heap.size, 1, none⟩ = false := box_frozen (cs := #[.string ⟨#[]⟩, .int .i64 0, .slice none 0 0]) (T := 91) (Below.refl _ _).drew
        have f_2 : (wr.alloc (.cells #[.string ⟨#[]⟩, .int .i64 0, .slice none 0 0] 91)).drew.frozen? ⟨wr.heap.size, 2, none⟩ = false := box_frozen (cs := #[.string ⟨#[]⟩, .int .i64 0, .slice none 0 0]) (T := 91) (Below.refl _ _).drew
        have k_b_0 : (wr.alloc (.cells #[.string ⟨#[]⟩, .int .i64 0, .slice none 0 0] 91)).drew.cell? ⟨w.heap.size, 0, none⟩ = some (.slice ub un uc) := cell_box b_0
        have k_q_1 : (wr.alloc (.cells #[.string ⟨#[]⟩, .int .i64 0, .slice none 0 0] 91)).drew.cell? ⟨w.heap.size + 1, 1, none⟩ = some (.slice (some ⟨b1, o1, none⟩) qn qc) := cell_box q_1
        have k_e_0 : (wr.alloc (.cells #[.string ⟨#[]⟩, .int .i64 0, .slice none 0 0] 91)).drew.cell? ⟨b1, o1 + j * 2, none⟩ = some (.string m1) := cell_box e_0
        have k_e_1 : (wr.alloc (.cells #[.string ⟨#[]⟩, .int .i64 0, .slice none 0 0] 91)).drew.cell? ⟨b1, o1 + j * 2 + 1, none⟩ = some (.slice vb vn vc) := cell_box e_1
        go_wp2_with fail
        go_region_held3 (fun W => W.cell? ⟨w.heap.size, 0, none⟩ = some (.slice ub un uc) ∧ W.cell? ⟨w.heap.size + 1, 1, none⟩ = some (.slice (some ⟨b1, o1, none⟩) qn qc) ∧ W.cell? ⟨b1, o1 + j * 2, none⟩ = some (.string m1) ∧ W.cell? ⟨b1, o1 + j * 2 + 1, none⟩ = some (.slice vb vn vc)) (first | exact ⟨b_0, q_1, e_0, e_1⟩ | assumption | (go_split_ands; (first | exact ⟨cell_box (by assumption), cell_box (by assumption), cell_box (by assumption), cell_box (by assumption)⟩ | exact ⟨cell_set3 (by assumption) (by simp only []; omega), cell_set3 (by assumption) (by simp only []; omega), cell_set3 (by assumption) (by simp only []; omega), cell_set3 (by assumption) (by simp only []; omega)⟩))) (first | (go_at_call 65; (with_reducible refine (HC1.out _ hbd).mono ?_); rintro e w10 ⟨vb', vn', vc', rfl, _, z10⟩; have hS10 := (⟨(z10.cell (p := ⟨w.heap.size, 0, none⟩) (by simp only []; omega)).trans b_0, (z10.cell (p := ⟨w.heap.size + 1, 1, none⟩) (by simp only []; omega)).trans q_1, (z10.cell (p := ⟨b1, o1 + j * 2, none⟩) (by simp only []; omega)).trans e_0, (z10.cell (p := ⟨b1, o1 + j * 2 + 1, none⟩) (by simp only []; omega)).trans e_1⟩ : (fun W => W.cell? ⟨w.heap.size, 0, none⟩ = some (.slice ub un uc) ∧ W.cell? ⟨w.heap.size + 1, 1, none⟩ = some (.slice (some ⟨b1, o1, none⟩) qn qc) ∧ W.cell? ⟨b1, o1 + j * 2, none⟩ = some (.string m1) ∧ W.cell? ⟨b1, o1 + j * 2 + 1, none⟩ = some (.slice vb vn vc)) w10); have hz10 := z10.size) | (go_at_call 65; (with_reducible refine (HC1.out _ hbn).mono ?_); rintro e w10 ⟨vb', vn', vc', rfl, _, z10⟩; have hS10 := (⟨(z10.cell (p := ⟨w.heap.size, 0, none⟩) (by simp only []; omega)).trans k_b_0, (z10.cell (p := ⟨w.heap.size + 1, 1, none⟩) (by simp only []; omega)).trans k_q_1, (z10.cell (p := ⟨b1, o1 + j * 2, none⟩) (by simp only []; omega)).trans k_e_0, (z10.cell (p := ⟨b1, o1 + j * 2 + 1, none⟩) (by simp only []; omega)).trans k_e_1⟩ : (fun W => W.cell? ⟨w.heap.size, 0, none⟩ = some (.slice ub un uc) ∧ W.cell? ⟨w.heap.size + 1, 1, none⟩ = some (.slice (some ⟨b1, o1, none⟩) qn qc) ∧ W.cell? ⟨b1, o1 + j * 2, none⟩ = some (.string m1) ∧ W.cell? ⟨b1, o1 + j * 2 + 1, none⟩ = some (.slice vb vn vc)) w10); have hz10 := z10.size; replace n_0 := (z10.cell (p := ⟨wr.heap.size, 0, none⟩) (by simp only []; omega)).trans n_0; replace n_1 := (z10.cell (p := ⟨wr.heap.size, 1, none⟩) (by simp only []; omega)).trans n_1; replace n_2 := (z10.cell (p := ⟨wr.heap.size, 2, none⟩) (by simp only []; omega)).trans n_2; replace f_0 := (z10.frozen (p := ⟨wr.heap.size, 0, none⟩) (by simp only []; omega)).trans f_0; replace f_1 := (z10.frozen (p := ⟨wr.heap.size, 1, none⟩) (by simp only []; omega)).trans f_1; replace f_2 := (z10.frozen (p := ⟨wr.heap.size, 2, none⟩) (by simp only []; omega)).trans f_2))
        · obtain ⟨Wf, hW⟩ : ∃ W, W = w10.alloc (.cells #[.string ns, .int .i64 A, .slice vb' vn' vc'] 91) := ⟨_, rfl⟩
          have hbf : Below w.heap.size w Wf := by rw [hW]; exact (on hbd z10).alloc (by omega) _
          have hlf : Below w9.heap.size w9 Wf := by rw [hW]; exact (on hlc.drew z10).alloc (by have h9 := hlc.size; omega) _
          have t_1 : Wf.cell? ⟨w10.heap.size, 1, none⟩ = some (.int .i64 A) := by rw [hW]; exact box_cell (i := 1) (Below.refl _ _) rfl
          have x_1 : Wf.cell? ⟨w.heap.size + 1, 1, none⟩ = some (.slice (some ⟨b1, o1, none⟩) qn qc) := by rw [hW]; exact cell_box hS10.2.1
          have x_2 : Wf.cell? ⟨b1, o1 + j * 2 + 1, none⟩ = some (.slice vb vn vc) := by rw [hW]; exact cell_box hS10.2.2.2
          rw [← hW]
          clear hS10 n_0 n_1 n_2 f_0 f_1 f_2 k_b_0 k_q_1 k_e_0 k_e_1 hW z10 hbn hbd hz10
          cases s with
          | false =>
            go_wp2_with fail
            go_quiet (fail)
            go_wp2_with fail
            go_ret
            exact ⟨ret_bool (by rw [HA.out]; rfl), onD hbf ⟨_, rfl⟩⟩
          | true =>
            by_cases hd : A = (vn : Int)
            · have hd2 : (A == (vn : Int)) = true := by rw [beq_iff_eq]; exact hd
              have HE : Hid (queryFor db (vq, xs) = forFrom db (xs.drop (j + 1))) := Lib.hid (by rw [HA.out, decide_eq_true hd]; simp)
              clear hd HA
              go_wp2_with fail
              go_quiet (fail)
              go_wp2_with fail
              go_roundw
              case rel => exact ⟨j + 1, by omega, by go_num, HE.out, onD hlf ⟨_, rfl⟩⟩
              case measure => simp [intOf]; omega
            · have HE : Hid (queryFor db (vq, xs) = false) := Lib.hid (by rw [HA.out, decide_eq_false hd]; simp)
              have hd2 : (A == (vn : Int)) = false := by rw [beq_eq_false_iff_ne]; exact hd
              go_wp2_with fail
              go_quiet (fail)
              go_wp2_with fail
              go_ret
              exact ⟨ret_bool HE.out.symm, onD hbf ⟨_, rfl⟩⟩
        · obtain ⟨Wf, hW⟩ : ∃ W, W = ((w10.setCell ⟨wr.heap.size, 0, none⟩ (.string ns)).setCell ⟨wr.heap.size, 1, none⟩ (.int .i64 A)).setCell ⟨wr.heap.size, 2, none⟩ (.slice vb' vn' vc') := ⟨_, rfl⟩
          have hbf : Below w.heap.size w Wf := by
            rw [hW]
            exact (((on hbn z10).setCell (by simp only []; omega) _).setCell (by simp only []; omega) _).setCell (by simp only []; omega) _
          have hlf : Below w9.heap.size w9 Wf := by
            have h9 := hlc.size
            rw [hW]
            exact (((on ((hlc.alloc (by omega) _).drew) z10).setCell (by simp only []; omega) _).setCell (by simp only []; omega) _).setCell (by simp only []; omega) _
          have t_1 : Wf.cell? ⟨wr.heap.size, 1, none⟩ = some (.int .i64 A) := by rw [hW]; simp [n_1, go_sem]
          have x_1 : Wf.cell? ⟨w.heap.size + 1, 1, none⟩ = some (.slice (some ⟨b1, o1, none⟩) qn qc) := by rw [hW]; exact cell_set3 hS10.2.1 (by simp only []; omega)
          have x_2 : Wf.cell? ⟨b1, o1 + j * 2 + 1, none⟩ = some (.slice vb vn vc) := by rw [hW]; exact cell_set3 hS10.2.2.2 (by simp only []; omega)
          rw [← hW]
          clear hS10 n_0 n_1 n_2 f_0 f_1 f_2 k_b_0 k_q_1 k_e_0 k_e_1 hW z10 hbn hbd hz10
          cases s with
          | false =>
            go_wp2_with fail
            go_quiet (fail)
            go_wp2_with fail
            go_ret
            exact ⟨ret_bool (by rw [HA.out]; rfl), onD hbf ⟨_, rfl⟩⟩
          | true =>
            by_cases hd : A = (vn : Int)
            · have hd2 : (A == (vn : Int)) = true := by rw [beq_iff_eq]; exact hd
              have HE : Hid (queryFor db (vq, xs) = forFrom db (xs.drop (j + 1))) := Lib.hid (by rw [HA.out, decide_eq_true hd]; simp)
              clear hd HA
              go_wp2_with fail
              go_quiet (fail)
              go_wp2_with fail
              go_roundw
              case rel => exact ⟨j + 1, by omega, by go_num, HE.out, onD hlf ⟨_, rfl⟩⟩
              case measure => simp [intOf]; omega
            · have HE : Hid (queryFor db (vq, xs) = false) := Lib.hid (by rw [HA.out, decide_eq_false hd]; simp)
              have hd2 : (A == (vn : Int)) = false := by rw [beq_eq_false_iff_ne]; exact hd
              go_wp2_with fail
              go_quiet (fail)
              go_wp2_with fail
              go_ret
              exact ⟨ret_bool HE.out.symm, onD hbf ⟨_, rfl⟩⟩
      · have HE : Hid (queryFor db (vq, xs) = true) := Lib.hid (by rw [hE.out, for_end (by omega)])
        clear hE t1 hl
        go_wp2_with fail
        go_ret
        exact ⟨ret_bool HE.out.symm, hb4⟩

end Go.Proofs.Ythhbmbkecaffeaa

/- Plain: the first violation of a dependency; small contracts. -/
namespace Go.Proofs.Ythhbmbkecaffeaa
open Go.RowKit
set_option linter.unusedVariables false
set_option linter.unusedSimpArgs false
set_option synthInstance.maxSize 2000
set_option synthInstance.maxHeartbeats 400000

theorem colsFrom_len {n : Int} : ∀ {p : Int} {xs : List Int}, -1 ≤ p → p ≤ n - 1 → colsFrom n p xs = true → (xs.length : Int) ≤ n - 1 - p
  | p, [], h1, h2, _ => by simp; omega
  | p, v :: t, h1, h2, h => by
    simp only [colsFrom, Bool.and_eq_true, decide_eq_true_eq, betw] at h
    have := colsFrom_len (p := v) (xs := t) (by omega) (by omega) h.2
    simp only [List.length_cons]; omega
theorem colsB_len {n : Int} {xs : List Int} (hn : 0 ≤ n) (h : colsB n xs = true) : (xs.length : Int) ≤ n := by
  have := colsFrom_len (n := n) (p := -1) (xs := xs) (by omega) (by omega) h
  omega
/-- Whether two rows violate. -/
def violB (fr : List Int) (to : Nat) (x y : List Int) : Bool := decide (sel x fr = sel y fr) && (x.getD to 0 != y.getD to 0)
def orElse (a b : List Int) : List Int := if a = [] then b else a
/-- Rows from place i on, against row k. -/
def violIn (fr : List Int) (to : Nat) (y : List Int) (k : Nat) : Nat → List (List Int) → List Int
  | _, [] => []
  | i, x :: t => if violB fr to x y then [(i : Int), (k : Int)] else violIn fr to y k (i + 1) t
def violOut (fr : List Int) (to : Nat) (rows : List (List Int)) : Nat → List (List Int) → List Int
  | _, [] => []
  | k, y :: t => orElse (violIn fr to y k 0 (rows.take k)) (violOut fr to rows (k + 1) t)
/-- The first violation. -/
def viol (db : DDb) (f : DDp) : List Int := if validDp db f then violOut f.2.1 f.2.2.toNat (lookT (look db f.1)).2.2 0 (lookT (look db f.1)).2.2 else []
theorem violOut_at {fr : List Int} {to k : Nat} {rows : List (List Int)} {y : List Int} (h : rows[k]? = some y) : violOut fr to rows k (rows.drop k) = orElse (violIn fr to y k 0 ((rows.take k).drop 0)) (violOut fr to rows (k + 1) (rows.drop (k + 1))) := by
  rw [drop_at h]; rfl
theorem violOut_end {fr : List Int} {to k : Nat} {rows : List (List Int)} (h : rows.length ≤ k) : violOut fr to rows k (rows.drop k) = [] := by
  rw [List.drop_eq_nil_of_le h]; rfl
theorem violIn_yes {fr : List Int} {to i k : Nat} {rows : List (List Int)} {x y : List Int} (hi : i < k) (h : rows[i]? = some x) (hv : violB fr to x y = true) (r : List Int) : orElse (violIn fr to y k i ((rows.take k).drop i)) r = [(i : Int), (k : Int)] := by
  rw [drop_at (show (rows.take k)[i]? = some x by rw [List.getElem?_take_of_lt hi]; exact h), violIn, if_pos hv]; rfl
theorem violIn_no {fr : List Int} {to i k : Nat} {rows : List (List Int)} {x y : List Int} (hi : i < k) (h : rows[i]? = some x) (hv : violB fr to x y = false) (r : List Int) : orElse (violIn fr to y k i ((rows.take k).drop i)) r = orElse (violIn fr to y k (i + 1) ((rows.take k).drop (i + 1))) r := by
  rw [drop_at (show (rows.take k)[i]? = some x by rw [List.getElem?_take_of_lt hi]; exact h), violIn, if_neg (by simp [hv])]
theorem violIn_end {fr : List Int} {to i k : Nat} {rows : List (List Int)} {y : List Int} (hi : k ≤ i) (r : List Int) : orElse (violIn fr to y k i ((rows.take k).drop i)) r = r := by
  rw [List.drop_eq_nil_of_le (by have := List.length_take_le k rows; omega)]; rfl
theorem violIn_cnt {fr : List Int} {to k : Nat} {y : List Int} : ∀ {i : Nat} {xs : List (List Int)}, (violIn fr to y k i xs).length ≤ 2
  | i, [] => by simp [violIn]
  | i, x :: t => by
    unfold violIn
    split
    · simp
    · exact violIn_cnt
theorem violOut_cnt {fr : List Int} {to : Nat} {rows : List (List Int)} : ∀ {k : Nat} {xs : List (List Int)}, (violOut fr to rows k xs).length ≤ 2
  | k, [] => by simp [violOut]
  | k, x :: t => by
    unfold violOut orElse
    split
    · exact violOut_cnt
    · exact violIn_cnt
theorem viol_len (db : DDb) (f : DDp) : (viol db f).length ≤ 2 := by
  unfold viol; split
  · exact violOut_cnt
  · simp
/-- Two numbers laid in a slice. -/
theorem own_two {W : World} {a b : Int} (ha : I64 a) (hb : I64 b) : Own oI W.heap.size (W.heap.size + 1) (W.alloc (.cells #[.int .i64 a, .int .i64 b] 3)) [.slice (some ⟨W.heap.size, 0, none⟩) 2 2] [a, b] := by
  have h : OwnInts W.heap.size (W.alloc (.cells #[.int .i64 a, .int .i64 b] 3)) (.slice (some ⟨W.heap.size, 0, none⟩) 2 2) 2 [a, b] :=
    ⟨rfl, ⟨rfl, .inr ⟨W.heap.size, 2, #[.int .i64 a, .int .i64 b], rfl, Nat.le_refl _, heap_alloc_new W _, Nat.le_refl _, by unfold maxLen; omega, rfl, rfl⟩⟩, by intro x hx; simp at hx; rcases hx with rfl | rfl <;> assumption⟩
  have h9 := h.own
  simpa using h9
/-- What is known where a dependency is valid. -/
theorem validDp_facts {db : DDb} {m1 : ByteArray} {fr : List Int} {to : Int} (h : validDp db (m1, fr, to) = true) : (look db m1).isSome = true ∧ fr.length ≤ 3 ∧ ∃ tn : Nat, to = (tn : Int) ∧ (tn : Int) < (lookT (look db m1)).2.1 := by
  simp only [validDp, Bool.and_eq_true, betw, decide_eq_true_eq] at h
  obtain ⟨h1, h2, ⟨h3, h4⟩, _⟩ := h
  have hA := (look_okT h1).ar
  have := colsB_len (by omega) h2
  exact ⟨h1, by omega, to.toNat, by omega, by omega⟩

end Go.Proofs.Ythhbmbkecaffeaa

/- Contracts: the first violation of a dependency, by the program. -/
namespace Go.Proofs.Ythhbmbkecaffeaa
open Go.RowKit
set_option linter.unusedVariables false
set_option linter.unusedSimpArgs false
set_option synthInstance.maxSize 2000
set_option synthInstance.maxHeartbeats 400000

set_option maxHeartbeats 4000000 in
theorem viol_impl (cs ds : List Value) (db : DDb) (x : DDp) (w : World) (h : rDb.rep w cs db) (h' : rDp.rep w ds x) :
    Calls Try.prog 47 #[.agg cs.toArray, .agg ds.toArray] w fun e w' => ∃ u, e = .returned u ∧ Own oI w.heap.size w'.heap.size w' [u] (viol db x) ∧ Below w.heap.size w w' := by
  obtain ⟨ub, un, uc, rfl, g1⟩ := rDb_open h
  obtain ⟨fb, fn, fc, rfl, hs0, gf, hi2⟩ := rDp_open h'
  have hcv := fun W (hW : Below w.heap.size w W) => validDp_impl _ _ db x W (rDb.mono h hW) (rDp.mono h' hW)
  obtain ⟨m1, fr, to⟩ := x
  simp only at hs0 gf hi2 hcv
  have i0 := rI_ints gf
  have hck := fun W (hW : Below w.heap.size w W) => lookI_any [.slice ub un uc] db m1 W (rDb.mono h hW)
  have HCV := Lib.hid hcv
  have HCK := Lib.hid hck
  have hfl := i0.len
  clear hcv hck h h' g1 gf hs0
  have hb0 : Below w.heap.size w w := Below.refl _ _
  go_enter Try.func47, Try.ntmps47
  obtain ⟨w1, hw1⟩ : ∃ W, W = w.alloc (.cells #[.slice ub un uc] 49) := ⟨_, rfl⟩
  have z1 : Below w.heap.size w w1 := by rw [hw1]; exact (Below.refl _ _).alloc (Nat.le_refl _) _
  have s1 : w1.heap.size = w.heap.size + 1 := by rw [hw1]; simp
  have hb1 := on hb0 z1
  have b_0 : w1.cell? ⟨w.heap.size, 0, none⟩ = some (.slice ub un uc) := by rw [hw1]; exact box_cell (Below.refl _ _) rfl
  have raw1_b_0 := b_0
  rw [hw1] at raw1_b_0
  obtain ⟨w2, hw2⟩ : ∃ W, W = w1.alloc (.cells #[.string m1, .slice fb fn fc, .int .i64 to] 68) := ⟨_, rfl⟩
  have z2 : Below w1.heap.size w1 w2 := by rw [hw2]; exact (Below.refl _ _).alloc (Nat.le_refl _) _
  have s2 : w2.heap.size = w1.heap.size + 1 := by rw [hw2]; simp
  have hb2 := on hb1 z2
  replace b_0 := (z2.cell (p := ⟨w.heap.size, 0, none⟩) (by simp only []; omega)).trans b_0
  have e2 : w1.heap.size = w.heap.size + 1 := by omega
  have x_0 : w2.cell? ⟨w1.heap.size, 0, none⟩ = some (.string m1) := by rw [hw2]; exact box_cell (Below.refl _ _) rfl
  have x_1 : w2.cell? ⟨w1.heap.size, 1, none⟩ = some (.slice fb fn fc) := by rw [hw2]; exact box_cell (Below.refl _ _) rfl
  have x_2 : w2.cell? ⟨w1.heap.size, 2, none⟩ = some (.int .i64 to) := by rw [hw2]; exact box_cell (Below.refl _ _) rfl
  rw [e2] at x_0 x_1 x_2
  have raw2_b_0 := b_0
  have raw2_x_0 := x_0
  have raw2_x_1 := x_1
  have raw2_x_2 := x_2
  rw [hw2, hw1] at raw2_b_0 raw2_x_0 raw2_x_1 raw2_x_2
  go_wp2_with fail
  rw [← hw1]
  rw [← hw2]
  clear hw2 hw1
  clear raw1_b_0 raw2_b_0 raw2_x_0 raw2_x_1 raw2_x_2
  refine (HCV.out _ hb2).mono ?_
  rintro e w9 ⟨rfl, z9⟩
  have s3 := z9.size
  have hb3 := on hb2 z9
  replace b_0 := (z9.cell (p := ⟨w.heap.size, 0, none⟩) (by simp only []; omega)).trans b_0
  replace x_0 := (z9.cell (p := ⟨w.heap.size + 1, 0, none⟩) (by simp only []; omega)).trans x_0
  replace x_1 := (z9.cell (p := ⟨w.heap.size + 1, 1, none⟩) (by simp only []; omega)).trans x_1
  replace x_2 := (z9.cell (p := ⟨w.heap.size + 1, 2, none⟩) (by simp only []; omega)).trans x_2
  by_cases hv : validDp db (m1, fr, to) = true
  case neg =>
    replace hv : validDp db (m1, fr, to) = false := by simpa using hv
    have HE : Hid (viol db (m1, fr, to) = []) := Lib.hid (by simp [viol, hv])
    rw [hv]
    go_wp2_with fail
    go_ret
    exact ⟨_, rfl, by rw [HE.out]; exact own_nil_S.mono (Nat.le_refl _) (by omega), hb3⟩
  obtain ⟨hsm, hf3, tn, rfl, htn⟩ := validDp_facts hv
  have hok := look_okT hsm
  have HE : Hid (viol db (m1, fr, (tn : Int)) = violOut fr tn (lookT (look db m1)).2.2 0 ((lookT (look db m1)).2.2.drop 0)) := Lib.hid (by simp [viol, hv])
  rw [hv]
  clear hv
  go_wp2_with fail
  refine (HCK.out _ hb3).mono ?_
  rintro e w10 ⟨vb, vn, vc, rfl, ho, z10⟩
  obtain ⟨t, ht⟩ : ∃ t, lookT (look db m1) = t := ⟨_, rfl⟩
  rw [ht] at hok htn HE ho ⊢
  rw [hsm]
  obtain ⟨ns, A, rows⟩ := t
  simp only at htn HE ho
  have hA := hok.ar
  have hrow := hok.row
  simp only at hA hrow
  have s4 := z10.size
  have hb4 := on hb3 z10
  replace b_0 := (z10.cell (p := ⟨w.heap.size, 0, none⟩) (by simp only []; omega)).trans b_0
  replace x_0 := (z10.cell (p := ⟨w.heap.size + 1, 0, none⟩) (by simp only []; omega)).trans x_0
  replace x_1 := (z10.cell (p := ⟨w.heap.size + 1, 1, none⟩) (by simp only []; omega)).trans x_1
  replace x_2 := (z10.cell (p := ⟨w.heap.size + 1, 2, none⟩) (by simp only []; omega)).trans x_2
  obtain ⟨vb2, vn2, vc2, he9, hs9, hi9, gr⟩ := rT_open (ho.rd reads_T)
  simp at he9 hs9 hi9 gr
  obtain ⟨rfl, rfl, rfl⟩ := he9
  have t1 := rS_sl gr
  obtain ⟨hcap, hcap2⟩ := rS_cap gr
  have hl := t1.len
  have hn := t1.small
  have HL := Lib.hid hl
  have HR := Lib.hid hrow
  clear hok hrow hsm ht ho gr hs9 hi9 HCV HCK hl
  have hT : Below w10.heap.size w10 w10 := Below.refl _ _
  obtain ⟨w5, hw5⟩ : ∃ W, W = w10.alloc (.cells #[.string ns, .int .i64 A, .slice vb vn vc] 91) := ⟨_, rfl⟩
  have z5 : Below w10.heap.size w10 w5 := by rw [hw5]; exact (Below.refl _ _).alloc (Nat.le_refl _) _
  have s5 : w5.heap.size = w10.heap.size + 1 := by rw [hw5]; simp
  have hb5 := on hb4 z5
  have old5_b_0 := b_0
  have old5_x_0 := x_0
  have old5_x_1 := x_1
  have old5_x_2 := x_2
  replace b_0 := (z5.cell (p := ⟨w.heap.size, 0, none⟩) (by simp only []; omega)).trans b_0
  replace x_0 := (z5.cell (p := ⟨w.heap.size + 1, 0, none⟩) (by simp only []; omega)).trans x_0
  replace x_1 := (z5.cell (p := ⟨w.heap.size + 1, 1, none⟩) (by simp only []; omega)).trans x_1
  replace x_2 := (z5.cell (p := ⟨w.heap.size + 1, 2, none⟩) (by simp only []; omega)).trans x_2
  replace hT := on hT z5
  have t_0 : w5.cell? ⟨w10.heap.size, 0, none⟩ = some (.string ns) := by rw [hw5]; exact box_cell (Below.refl _ _) rfl
  have t_1 : w5.cell? ⟨w10.heap.size, 1, none⟩ = some (.int .i64 A) := by rw [hw5]; exact box_cell (Below.refl _ _) rfl
  have t_2 : w5.cell? ⟨w10.heap.size, 2, none⟩ = some (.slice vb vn vc) := by rw [hw5]; exact box_cell (Below.refl _ _) rfl
  have raw5_b_0 := b_0
  have raw5_x_0 := x_0
  have raw5_x_1 := x_1
  have raw5_x_2 := x_2
  have raw5_t_0 := t_0
  have raw5_t_1 := t_1
  have raw5_t_2 := t_2
  rw [hw5] at raw5_b_0 raw5_x_0 raw5_x_1 raw5_x_2 raw5_t_0 raw5_t_1 raw5_t_2
  go_wp2_with fail
  rw [← hw5]
  clear hw5
  clear old5_b_0 old5_x_0 old5_x_1 old5_x_2 raw5_b_0 raw5_x_0 raw5_x_1 raw5_x_2 raw5_t_0 raw5_t_1 raw5_t_2
  go_loopw [29] (fun k wr => ∃ j : Nat, j ≤ vn ∧ k = .int .i64 j ∧ Hid (viol db (m1, fr, (tn : Int)) = violOut fr tn rows j (rows.drop j)) ∧ Below w5.heap.size w5 wr) (fun k _ => vn - (intOf k).toNat)
  case atStart => exact ⟨0, Nat.zero_le _, rfl, HE.out, Below.refl _ _⟩
  case round =>
    obtain ⟨k, hk, rfl, hE, hdr⟩ := hrel
    obtain ⟨wo, rfl⟩ : ∃ W, W = wr := ⟨_, rfl⟩
    have hlc := hdr
    clear HE
    have s6 := hdr.size
    have hb6 := on hb5 hdr
    replace b_0 := (hdr.cell (p := ⟨w.heap.size, 0, none⟩) (by simp only []; omega)).trans b_0
    replace x_0 := (hdr.cell (p := ⟨w.heap.size + 1, 0, none⟩) (by simp only []; omega)).trans x_0
    replace x_1 := (hdr.cell (p := ⟨w.heap.size + 1, 1, none⟩) (by simp only []; omega)).trans x_1
    replace x_2 := (hdr.cell (p := ⟨w.heap.size + 1, 2, none⟩) (by simp only []; omega)).trans x_2
    replace hT := on hT hdr
    replace t_0 := (hdr.cell (p := ⟨w10.heap.size, 0, none⟩) (by simp only []; omega)).trans t_0
    replace t_1 := (hdr.cell (p := ⟨w10.heap.size, 1, none⟩) (by simp only []; omega)).trans t_1
    replace t_2 := (hdr.cell (p := ⟨w10.heap.size, 2, none⟩) (by simp only []; omega)).trans t_2
    by_cases hlt : k < vn
    · obtain ⟨b1, o1, yb, yn, yc, y, rfl, hcy, hy, iy, _⟩ := t1.row hlt
      have hyA := (HR.out y (List.mem_of_getElem? hy.out)).1
      have hyl := iy.len
      have hytn : tn < yn := by omega
      have hbt1 : b1 < w10.heap.size := cell_lt hcy
      have y0 : wo.cell? ⟨b1, o1 + k, none⟩ = some (.slice yb yn yc) := (hT.cell (p := ⟨b1, o1 + k, none⟩) (cell_lt hcy)).trans hcy
      have HA := Lib.hid (hE.out.trans (violOut_at hy.out))
      obtain ⟨R, hR⟩ : ∃ R, R = violOut fr tn rows (k + 1) (rows.drop (k + 1)) := ⟨_, rfl⟩
      rw [← hR] at HA
      have HR2 := Lib.hid hR
      obtain ⟨yb1, yo1, yv, hye, hcyv, hyv, _, _⟩ := iy.get hytn
      subst hye
      have hbt2 : yb1 < w10.heap.size := cell_lt hcyv
      have yv0 : wo.cell? ⟨yb1, yo1 + tn, none⟩ = some (.int .i64 yv) := (hT.cell (p := ⟨yb1, yo1 + tn, none⟩) (cell_lt hcyv)).trans hcyv
      clear hcyv hcy hE hR hyA hyl
      go_wp2_with fail
      go_loopw [39] (fun i wr => ∃ j : Nat, j ≤ k ∧ i = .int .i64 j ∧ Hid (viol db (m1, fr, (tn : Int)) = orElse (violIn fr tn y k j ((rows.take k).drop j)) R) ∧ Below wo.heap.size wo wr) (fun i _ => k - (intOf i).toNat)
      case atStart => exact ⟨0, Nat.zero_le _, rfl, HA.out, Below.refl _ _⟩
      case round =>
        obtain ⟨i, hi, rfl, hE, hdr⟩ := hrel
        have hld := hdr
        clear HA
        have s7 := hdr.size
        have hb7 := on hb6 hdr
        replace b_0 := (hdr.cell (p := ⟨w.heap.size, 0, none⟩) (by simp only []; omega)).trans b_0
        replace x_0 := (hdr.cell (p := ⟨w.heap.size + 1, 0, none⟩) (by simp only []; omega)).trans x_0
        replace x_1 := (hdr.cell (p := ⟨w.heap.size + 1, 1, none⟩) (by simp only []; omega)).trans x_1
        replace x_2 := (hdr.cell (p := ⟨w.heap.size + 1, 2, none⟩) (by simp only []; omega)).trans x_2
        replace hT := on hT hdr
        replace t_0 := (hdr.cell (p := ⟨w10.heap.size, 0, none⟩) (by simp only []; omega)).trans t_0
        replace t_1 := (hdr.cell (p := ⟨w10.heap.size, 1, none⟩) (by simp only []; omega)).trans t_1
        replace t_2 := (hdr.cell (p := ⟨w10.heap.size, 2, none⟩) (by simp only []; omega)).trans t_2
        replace hlc := on hlc hdr
        replace y0 := (hdr.cell (p := ⟨b1, o1 + k, none⟩) (by simp only []; omega)).trans y0
        replace yv0 := (hdr.cell (p := ⟨yb1, yo1 + tn, none⟩) (by simp only []; omega)).trans yv0
        by_cases hlt2 : i < k
        · obtain ⟨b9, o9, xb, xn, xc, x, hb9, hcx, hx, ix, _⟩ := t1.row (show i < vn by omega)
          simp at hb9
          obtain ⟨rfl, rfl⟩ := hb9
          have hxA := (HR.out x (List.mem_of_getElem? hx.out)).1
          have hxl := ix.len
          have hxtn : tn < xn := by omega
          have x0 : wr.cell? ⟨b1, o1 + i, none⟩ = some (.slice xb xn xc) := (hT.cell (p := ⟨b1, o1 + i, none⟩) (cell_lt hcx)).trans hcx
          obtain ⟨xb1, xo1, xv, hxe, hcxv, hxv, _, _⟩ := ix.get hxtn
          subst hxe
          have hbt3 : xb1 < w10.heap.size := cell_lt hcxv
          have xv0 : wr.cell? ⟨xb1, xo1 + tn, none⟩ = some (.int .i64 xv) := (hT.cell (p := ⟨xb1, xo1 + tn, none⟩) (cell_lt hcxv)).trans hcxv
          have hs1 := sel_impl _ _ _ _ xc fc x fr _ (ix.below hT) (i0.below hb7) (by omega)
          have HS1 := Lib.hid hs1
          have hvB : violB fr tn x y = (decide (sel x fr = sel y fr) && (xv != yv)) := by rw [violB, hxv.out, hyv.out]
          have HYes := Lib.hid (violIn_yes (fr := fr) (to := tn) (y := y) hlt2 hx.out · R)
          have HNo := Lib.hid (violIn_no (fr := fr) (to := tn) (y := y) hlt2 hx.out · R)
          rw [hvB] at HYes HNo
          clear hs1 hvB hcx hcxv hxA hxl
          go_wp2_with fail
          refine HS1.out.mono ?_
          rintro e w11 ⟨p1, p2, p3, rfl, o1', z11⟩
          have s8 := z11.size
          have hb8 := on hb7 z11
          replace b_0 := (z11.cell (p := ⟨w.heap.size, 0, none⟩) (by simp only []; omega)).trans b_0
          replace x_0 := (z11.cell (p := ⟨w.heap.size + 1, 0, none⟩) (by simp only []; omega)).trans x_0
          replace x_1 := (z11.cell (p := ⟨w.heap.size + 1, 1, none⟩) (by simp only []; omega)).trans x_1
          replace x_2 := (z11.cell (p := ⟨w.heap.size + 1, 2, none⟩) (by simp only []; omega)).trans x_2
          replace hT := on hT z11
          replace t_0 := (z11.cell (p := ⟨w10.heap.size, 0, none⟩) (by simp only []; omega)).trans t_0
          replace t_1 := (z11.cell (p := ⟨w10.heap.size, 1, none⟩) (by simp only []; omega)).trans t_1
          replace t_2 := (z11.cell (p := ⟨w10.heap.size, 2, none⟩) (by simp only []; omega)).trans t_2
          replace hlc := on hlc z11
          replace y0 := (z11.cell (p := ⟨b1, o1 + k, none⟩) (by simp only []; omega)).trans y0
          replace yv0 := (z11.cell (p := ⟨yb1, yo1 + tn, none⟩) (by simp only []; omega)).trans yv0
          replace hld := on hld z11
          replace x0 := (z11.cell (p := ⟨b1, o1 + i, none⟩) (by simp only []; omega)).trans x0
          replace xv0 := (z11.cell (p := ⟨xb1, xo1 + tn, none⟩) (by simp only []; omega)).trans xv0
          have hs2 := sel_impl _ _ _ _ yc fc y fr _ (iy.below hT) (i0.below hb8) (by omega)
          have HS2 := Lib.hid hs2
          clear hs2
          go_wp2_with fail
          refine HS2.out.mono ?_
          rintro e w12 ⟨q1, q2, q3, rfl, o2', z12⟩
          have s9 := z12.size
          have hb9 := on hb8 z12
          replace b_0 := (z12.cell (p := ⟨w.heap.size, 0, none⟩) (by simp only []; omega)).trans b_0
          replace x_0 := (z12.cell (p := ⟨w.heap.size + 1, 0, none⟩) (by simp only []; omega)).trans x_0
          replace x_1 := (z12.cell (p := ⟨w.heap.size + 1, 1, none⟩) (by simp only []; omega)).trans x_1
          replace x_2 := (z12.cell (p := ⟨w.heap.size + 1, 2, none⟩) (by simp only []; omega)).trans x_2
          replace hT := on hT z12
          replace t_0 := (z12.cell (p := ⟨w10.heap.size, 0, none⟩) (by simp only []; omega)).trans t_0
          replace t_1 := (z12.cell (p := ⟨w10.heap.size, 1, none⟩) (by simp only []; omega)).trans t_1
          replace t_2 := (z12.cell (p := ⟨w10.heap.size, 2, none⟩) (by simp only []; omega)).trans t_2
          replace hlc := on hlc z12
          replace y0 := (z12.cell (p := ⟨b1, o1 + k, none⟩) (by simp only []; omega)).trans y0
          replace yv0 := (z12.cell (p := ⟨yb1, yo1 + tn, none⟩) (by simp only []; omega)).trans yv0
          replace hld := on hld z12
          replace x0 := (z12.cell (p := ⟨b1, o1 + i, none⟩) (by simp only []; omega)).trans x0
          replace xv0 := (z12.cell (p := ⟨xb1, xo1 + tn, none⟩) (by simp only []; omega)).trans xv0
          replace o1' := o1'.below z12 (by omega)
          have heq := fun q => equalInts p1 q1 p2 q2 p3 q3 (sel x fr) (sel y fr) (w12.drewN q) ((rI_ints (o1'.rd reads_I)).drewN q) ((rI_ints (o2'.rd reads_I)).drewN q)
          obtain ⟨g, hg⟩ : ∃ g, decide (sel x fr = sel y fr) = g := ⟨_, rfl⟩
          rw [hg] at HYes HNo
          simp only [hg] at heq
          have HEQ := Lib.hid heq
          clear heq hg o1' o2' HS1 HS2
          cases g with
          | false =>
            have HE2 : Hid (viol db (m1, fr, (tn : Int)) = orElse (violIn fr tn y k (i + 1) ((rows.take k).drop (i + 1))) R) := Lib.hid (by rw [hE.out]; exact HNo.out rfl)
            clear hE HYes HNo
            go_wp2_with fail
            go_quiet ((go_at_call 87; exact quiet_drew (HEQ.out _)))
            go_wp2_with fail
            go_roundw
            case rel => exact ⟨i + 1, by omega, by go_num, HE2.out, onD hld ⟨_, rfl⟩⟩
            case measure => simp [intOf]; omega
          | true =>
            by_cases hxy : xv = yv
            · have HE2 : Hid (viol db (m1, fr, (tn : Int)) = orElse (violIn fr tn y k (i + 1) ((rows.take k).drop (i + 1))) R) := Lib.hid (by rw [hE.out]; exact HNo.out (by simp [hxy]))
              have hd : (xv != yv) = false := by simp [hxy]
              have HXY := Lib.hid hxy
              clear hE HYes HNo hxy
              go_wp2_with fail
              go_quiet ((go_at_call 87; exact quiet_drew (HEQ.out _)))
              go_wp2_with fail
              go_roundw
              case rel => exact ⟨i + 1, by omega, by go_num, HE2.out, onD hld ⟨_, rfl⟩⟩
              case measure => simp [intOf]; omega
            · have HE2 : Hid (viol db (m1, fr, (tn : Int)) = [(i : Int), (k : Int)]) := Lib.hid (by rw [hE.out]; exact HYes.out (by simp [hxy]))
              have hd : (xv != yv) = true := by simp [hxy]
              have HXY := Lib.hid hxy
              clear hE HYes HNo hxy
              go_wp2_with fail
              go_quiet ((go_at_call 87; exact quiet_drew (HEQ.out _)))
              go_wp2_with fail
              go_ret
              refine ⟨_, rfl, by rw [HE2.out]; exact (own_two ⟨by omega, by omega⟩ ⟨by omega, by omega⟩).mono (by simp; omega) (by simp), ?_⟩
              exact (onD hb9 ⟨_, rfl⟩).alloc (by simp; omega) _
        · have HE2 : Hid (viol db (m1, fr, (tn : Int)) = violOut fr tn rows (k + 1) (rows.drop (k + 1))) := Lib.hid (by rw [hE.out, violIn_end (by omega), HR2.out])
          clear hE
          go_wp2_with fail
          go_roundw
          case rel => exact ⟨k + 1, by omega, by go_num, HE2.out, hlc⟩
          case measure => simp [intOf]; omega
    · have HE2 : Hid (viol db (m1, fr, (tn : Int)) = []) := Lib.hid (by rw [hE.out, violOut_end (by rw [HL.out]; omega)])
      clear hE
      go_wp2_with fail
      go_ret
      exact ⟨_, rfl, by rw [HE2.out]; exact own_nil_S.mono (Nat.le_refl _) (by omega), hb6⟩

end Go.Proofs.Ythhbmbkecaffeaa

/- Contracts: the first violation of a dependency, by the reference; whether a dependency holds. -/
namespace Go.Proofs.Ythhbmbkecaffeaa
open Go.RowKit
set_option linter.unusedVariables false
set_option linter.unusedSimpArgs false
set_option synthInstance.maxSize 2000
set_option synthInstance.maxHeartbeats 400000

theorem own_none {W : World} : Own oI W.heap.size (W.heap.size + 1) (W.alloc (.cells #[] 3)) [.slice (some ⟨W.heap.size, 0, none⟩) 0 0] [] := by
  have h := (own_empty (W := W) (Nat.le_refl _)).own
  simpa using h
theorem own_none_g {W : World} {g lo : Nat} (hg : W.heap.size = g) (hl : lo ≤ g) : Own oI lo (W.alloc (.cells #[] 3)).heap.size (W.alloc (.cells #[] 3)) [.slice (some ⟨g, 0, none⟩) 0 0] [] := by
  subst hg
  exact own_none.mono hl (by simp)

set_option maxRecDepth 100000 in
set_option maxHeartbeats 4000000 in
theorem viol_spec (cs ds : List Value) (db : DDb) (x : DDp) (w : World) (h : rDb.rep w cs db) (h' : rDp.rep w ds x) :
    Calls Try.prog 46 #[.agg cs.toArray, .agg ds.toArray] w fun e w' => ∃ u, e = .returned u ∧ Own oI w.heap.size w'.heap.size w' [u] (viol db x) ∧ Below w.heap.size w w' := by
  obtain ⟨ub, un, uc, rfl, g1⟩ := rDb_open h
  obtain ⟨fb, fn, fc, rfl, hs0, gf, hi2⟩ := rDp_open h'
  have hcv := fun W (hW : Below w.heap.size w W) => validDp_spec _ _ db x W (rDb.mono h hW) (rDp.mono h' hW)
  obtain ⟨m1, fr, to⟩ := x
  simp only at hs0 gf hi2 hcv
  have i0 := rI_ints gf
  have hck := fun W (hW : Below w.heap.size w W) => lookS_any [.slice ub un uc] db m1 W (rDb.mono h hW)
  have HCV := Lib.hid hcv
  have HCK := Lib.hid hck
  have hfl := i0.len
  clear hcv hck h h' g1 gf hs0
  have hb0 : Below w.heap.size w w := Below.refl _ _
  go_enter Try.func46, Try.ntmps46
  obtain ⟨w1, hw1⟩ : ∃ W, W = w.alloc (.cells #[.slice ub un uc] 49) := ⟨_, rfl⟩
  have z1 : Below w.heap.size w w1 := by rw [hw1]; exact (Below.refl _ _).alloc (Nat.le_refl _) _
  have s1 : w1.heap.size = w.heap.size + 1 := by rw [hw1]; simp
  have hb1 := on hb0 z1
  have b_0 : w1.cell? ⟨w.heap.size, 0, none⟩ = some (.slice ub un uc) := by rw [hw1]; exact box_cell (Below.refl _ _) rfl
  have raw1_b_0 := b_0
  rw [hw1] at raw1_b_0
  obtain ⟨w2, hw2⟩ : ∃ W, W = w1.alloc (.cells #[.string m1, .slice fb fn fc, .int .i64 to] 68) := ⟨_, rfl⟩
  have z2 : Below w1.heap.size w1 w2 := by rw [hw2]; exact (Below.refl _ _).alloc (Nat.le_refl _) _
  have s2 : w2.heap.size = w1.heap.size + 1 := by rw [hw2]; simp
  have hb2 := on hb1 z2
  replace b_0 := (z2.cell (p := ⟨w.heap.size, 0, none⟩) (by simp only []; omega)).trans b_0
  have e2 : w1.heap.size = w.heap.size + 1 := by omega
  have x_0 : w2.cell? ⟨w1.heap.size, 0, none⟩ = some (.string m1) := by rw [hw2]; exact box_cell (Below.refl _ _) rfl
  have x_1 : w2.cell? ⟨w1.heap.size, 1, none⟩ = some (.slice fb fn fc) := by rw [hw2]; exact box_cell (Below.refl _ _) rfl
  have x_2 : w2.cell? ⟨w1.heap.size, 2, none⟩ = some (.int .i64 to) := by rw [hw2]; exact box_cell (Below.refl _ _) rfl
  rw [e2] at x_0 x_1 x_2
  have raw2_b_0 := b_0
  have raw2_x_0 := x_0
  have raw2_x_1 := x_1
  have raw2_x_2 := x_2
  rw [hw2, hw1] at raw2_b_0 raw2_x_0 raw2_x_1 raw2_x_2
  go_wp2_with fail
  rw [← hw1]
  rw [← hw2]
  clear hw2 hw1
  clear raw1_b_0 raw2_b_0 raw2_x_0 raw2_x_1 raw2_x_2
  refine (HCK.out _ hb2).mono ?_
  rintro e w10 ⟨vb, vn, vc, rfl, ho, z10⟩
  have s3 := z10.size
  have hb3 := on hb2 z10
  replace b_0 := (z10.cell (p := ⟨w.heap.size, 0, none⟩) (by simp only []; omega)).trans b_0
  replace x_0 := (z10.cell (p := ⟨w.heap.size + 1, 0, none⟩) (by simp only []; omega)).trans x_0
  replace x_1 := (z10.cell (p := ⟨w.heap.size + 1, 1, none⟩) (by simp only []; omega)).trans x_1
  replace x_2 := (z10.cell (p := ⟨w.heap.size + 1, 2, none⟩) (by simp only []; omega)).trans x_2
  by_cases hv : validDp db (m1, fr, to) = true
  case neg =>
    replace hv : validDp db (m1, fr, to) = false := by simpa using hv
    have HE : Hid (viol db (m1, fr, to) = []) := Lib.hid (by simp [viol, hv])
    rw [hv] at HCV
    obtain ⟨t, ht⟩ : ∃ t, lookT (look db m1) = t := ⟨_, rfl⟩
    rw [ht] at ho ⊢
    obtain ⟨ns, A, rows⟩ := t
    simp only at ho
    obtain ⟨vb2, vn2, vc2, he9, hs9, hi9, gr⟩ := rT_open (ho.rd reads_T)
    simp at he9 hs9 hi9 gr
    obtain ⟨rfl, rfl, rfl⟩ := he9
    have hn := (rS_sl gr).small
    clear hv ht ho gr hs9 hi9 HCK
    obtain ⟨w4, hw4⟩ : ∃ W, W = w10.alloc (.cells #[.string ns, .int .i64 A, .slice vb vn vc] 91) := ⟨_, rfl⟩
    have z4 : Below w10.heap.size w10 w4 := by rw [hw4]; exact (Below.refl _ _).alloc (Nat.le_refl _) _
    have s4 : w4.heap.size = w10.heap.size + 1 := by rw [hw4]; simp
    have hb4 := on hb3 z4
    have old4_b_0 := b_0
    have old4_x_0 := x_0
    have old4_x_1 := x_1
    have old4_x_2 := x_2
    replace b_0 := (z4.cell (p := ⟨w.heap.size, 0, none⟩) (by simp only []; omega)).trans b_0
    replace x_0 := (z4.cell (p := ⟨w.heap.size + 1, 0, none⟩) (by simp only []; omega)).trans x_0
    replace x_1 := (z4.cell (p := ⟨w.heap.size + 1, 1, none⟩) (by simp only []; omega)).trans x_1
    replace x_2 := (z4.cell (p := ⟨w.heap.size + 1, 2, none⟩) (by simp only []; omega)).trans x_2
    have t_0 : w4.cell? ⟨w10.heap.size, 0, none⟩ = some (.string ns) := by rw [hw4]; exact box_cell (Below.refl _ _) rfl
    have t_1 : w4.cell? ⟨w10.heap.size, 1, none⟩ = some (.int .i64 A) := by rw [hw4]; exact box_cell (Below.refl _ _) rfl
    have t_2 : w4.cell? ⟨w10.heap.size, 2, none⟩ = some (.slice vb vn vc) := by rw [hw4]; exact box_cell (Below.refl _ _) rfl
    have raw4_b_0 := b_0
    have raw4_x_0 := x_0
    have raw4_x_1 := x_1
    have raw4_x_2 := x_2
    have raw4_t_0 := t_0
    have raw4_t_1 := t_1
    have raw4_t_2 := t_2
    rw [hw4] at raw4_b_0 raw4_x_0 raw4_x_1 raw4_x_2 raw4_t_0 raw4_t_1 raw4_t_2
    go_wp2_with fail
    rw [← hw4]
    clear hw4
    clear old4_b_0 old4_x_0 old4_x_1 old4_x_2 raw4_b_0 raw4_x_0 raw4_x_1 raw4_x_2 raw4_t_0 raw4_t_1 raw4_t_2
    go_loopw [7] (fun k wr => k = .int .i64 0 ∧ w4 = wr) (fun k _ => 0)
    case atStart => exact ⟨rfl, rfl⟩
    case round =>
      obtain ⟨rfl, rfl⟩ := hrel
      by_cases hvn : vn = 0
      · subst hvn
        go_wp2_with fail
        go_ret
        refine ⟨_, rfl, ?_, (hb4).alloc (by omega) _⟩
        rw [HE.out]
        exact own_none_g (by omega) (by omega)
      · go_wp2_with fail
        refine (HCV.out _ hb4).mono ?_
        rintro e w11 ⟨rfl, z11⟩
        have s5 := z11.size
        have hb5 := on hb4 z11
        replace b_0 := (z11.cell (p := ⟨w.heap.size, 0, none⟩) (by simp only []; omega)).trans b_0
        replace x_0 := (z11.cell (p := ⟨w.heap.size + 1, 0, none⟩) (by simp only []; omega)).trans x_0
        replace x_1 := (z11.cell (p := ⟨w.heap.size + 1, 1, none⟩) (by simp only []; omega)).trans x_1
        replace x_2 := (z11.cell (p := ⟨w.heap.size + 1, 2, none⟩) (by simp only []; omega)).trans x_2
        replace t_0 := (z11.cell (p := ⟨w10.heap.size, 0, none⟩) (by simp only []; omega)).trans t_0
        replace t_1 := (z11.cell (p := ⟨w10.heap.size, 1, none⟩) (by simp only []; omega)).trans t_1
        replace t_2 := (z11.cell (p := ⟨w10.heap.size, 2, none⟩) (by simp only []; omega)).trans t_2
        go_wp2_with fail
        go_ret
        refine ⟨_, rfl, ?_, (hb5).alloc (by omega) _⟩
        rw [HE.out]
        exact own_none_g (by omega) (by omega)
  obtain ⟨hsm, hf3, tn, rfl, htn⟩ := validDp_facts hv
  have hok := look_okT hsm
  have HE : Hid (viol db (m1, fr, (tn : Int)) = violOut fr tn (lookT (look db m1)).2.2 0 ((lookT (look db m1)).2.2.drop 0)) := Lib.hid (by simp [viol, hv])
  rw [hv] at HCV
  clear hv
  obtain ⟨t, ht⟩ : ∃ t, lookT (look db m1) = t := ⟨_, rfl⟩
  rw [ht] at hok htn HE ho ⊢
  rw [hsm]
  obtain ⟨ns, A, rows⟩ := t
  simp only at htn HE ho
  have hA := hok.ar
  have hrow := hok.row
  simp only at hA hrow
  obtain ⟨vb2, vn2, vc2, he9, hs9, hi9, gr⟩ := rT_open (ho.rd reads_T)
  simp at he9 hs9 hi9 gr
  obtain ⟨rfl, rfl, rfl⟩ := he9
  have t1 := rS_sl gr
  obtain ⟨hcap, hcap2⟩ := rS_cap gr
  have hl := t1.len
  have hn := t1.small
  have HL := Lib.hid hl
  have HR := Lib.hid hrow
  clear hok hrow hsm ht ho gr hs9 hi9 HCK hl
  have hT : Below w10.heap.size w10 w10 := Below.refl _ _
  obtain ⟨w6, hw6⟩ : ∃ W, W = w10.alloc (.cells #[.string ns, .int .i64 A, .slice vb vn vc] 91) := ⟨_, rfl⟩
  have z6 : Below w10.heap.size w10 w6 := by rw [hw6]; exact (Below.refl _ _).alloc (Nat.le_refl _) _
  have s6 : w6.heap.size = w10.heap.size + 1 := by rw [hw6]; simp
  have hb6 := on hb3 z6
  have old6_b_0 := b_0
  have old6_x_0 := x_0
  have old6_x_1 := x_1
  have old6_x_2 := x_2
  replace b_0 := (z6.cell (p := ⟨w.heap.size, 0, none⟩) (by simp only []; omega)).trans b_0
  replace x_0 := (z6.cell (p := ⟨w.heap.size + 1, 0, none⟩) (by simp only []; omega)).trans x_0
  replace x_1 := (z6.cell (p := ⟨w.heap.size + 1, 1, none⟩) (by simp only []; omega)).trans x_1
  replace x_2 := (z6.cell (p := ⟨w.heap.size + 1, 2, none⟩) (by simp only []; omega)).trans x_2
  replace hT := on hT z6
  have t_0 : w6.cell? ⟨w10.heap.size, 0, none⟩ = some (.string ns) := by rw [hw6]; exact box_cell (Below.refl _ _) rfl
  have t_1 : w6.cell? ⟨w10.heap.size, 1, none⟩ = some (.int .i64 A) := by rw [hw6]; exact box_cell (Below.refl _ _) rfl
  have t_2 : w6.cell? ⟨w10.heap.size, 2, none⟩ = some (.slice vb vn vc) := by rw [hw6]; exact box_cell (Below.refl _ _) rfl
  have raw6_b_0 := b_0
  have raw6_x_0 := x_0
  have raw6_x_1 := x_1
  have raw6_x_2 := x_2
  have raw6_t_0 := t_0
  have raw6_t_1 := t_1
  have raw6_t_2 := t_2
  rw [hw6] at raw6_b_0 raw6_x_0 raw6_x_1 raw6_x_2 raw6_t_0 raw6_t_1 raw6_t_2
  go_wp2_with fail
  rw [← hw6]
  clear hw6
  clear old6_b_0 old6_x_0 old6_x_1 old6_x_2 raw6_b_0 raw6_x_0 raw6_x_1 raw6_x_2 raw6_t_0 raw6_t_1 raw6_t_2
  go_loopw [7] (fun k wr => ∃ j : Nat, j ≤ vn ∧ k = .int .i64 j ∧ Hid (viol db (m1, fr, (tn : Int)) = violOut fr tn rows j (rows.drop j)) ∧ Below w6.heap.size w6 wr) (fun k _ => vn - (intOf k).toNat)
  case atStart => exact ⟨0, Nat.zero_le _, rfl, HE.out, Below.refl _ _⟩
  case round =>
    obtain ⟨k, hk, rfl, hE, hdr⟩ := hrel
    obtain ⟨wo, rfl⟩ : ∃ W, W = wr := ⟨_, rfl⟩
    have hlc := hdr
    clear HE
    have s7 := hdr.size
    have hb7 := on hb6 hdr
    replace b_0 := (hdr.cell (p := ⟨w.heap.size, 0, none⟩) (by simp only []; omega)).trans b_0
    replace x_0 := (hdr.cell (p := ⟨w.heap.size + 1, 0, none⟩) (by simp only []; omega)).trans x_0
    replace x_1 := (hdr.cell (p := ⟨w.heap.size + 1, 1, none⟩) (by simp only []; omega)).trans x_1
    replace x_2 := (hdr.cell (p := ⟨w.heap.size + 1, 2, none⟩) (by simp only []; omega)).trans x_2
    replace hT := on hT hdr
    replace t_0 := (hdr.cell (p := ⟨w10.heap.size, 0, none⟩) (by simp only []; omega)).trans t_0
    replace t_1 := (hdr.cell (p := ⟨w10.heap.size, 1, none⟩) (by simp only []; omega)).trans t_1
    replace t_2 := (hdr.cell (p := ⟨w10.heap.size, 2, none⟩) (by simp only []; omega)).trans t_2
    by_cases hlt : k < vn
    · obtain ⟨b1, o1, yb, yn, yc, y, rfl, hcy, hy, iy, _⟩ := t1.row hlt
      have hyA := (HR.out y (List.mem_of_getElem? hy.out)).1
      have hyl := iy.len
      have hytn : tn < yn := by omega
      have hbt1 : b1 < w10.heap.size := cell_lt hcy
      have y0 : wo.cell? ⟨b1, o1 + k, none⟩ = some (.slice yb yn yc) := (hT.cell (p := ⟨b1, o1 + k, none⟩) (cell_lt hcy)).trans hcy
      have HA := Lib.hid (hE.out.trans (violOut_at hy.out))
      obtain ⟨R, hR⟩ : ∃ R, R = violOut fr tn rows (k + 1) (rows.drop (k + 1)) := ⟨_, rfl⟩
      rw [← hR] at HA
      have HR2 := Lib.hid hR
      obtain ⟨yb1, yo1, yv, hye, hcyv, hyv, _, _⟩ := iy.get hytn
      subst hye
      have hbt2 : yb1 < w10.heap.size := cell_lt hcyv
      have yv0 : wo.cell? ⟨yb1, yo1 + tn, none⟩ = some (.int .i64 yv) := (hT.cell (p := ⟨yb1, yo1 + tn, none⟩) (cell_lt hcyv)).trans hcyv
      clear hcyv hcy hE hR hyA hyl
      go_wp2_with fail
      refine (HCV.out _ hb7).mono ?_
      rintro e w11 ⟨rfl, z11⟩
      have s8 := z11.size
      have hb8 := on hb7 z11
      replace b_0 := (z11.cell (p := ⟨w.heap.size, 0, none⟩) (by simp only []; omega)).trans b_0
      replace x_0 := (z11.cell (p := ⟨w.heap.size + 1, 0, none⟩) (by simp only []; omega)).trans x_0
      replace x_1 := (z11.cell (p := ⟨w.heap.size + 1, 1, none⟩) (by simp only []; omega)).trans x_1
      replace x_2 := (z11.cell (p := ⟨w.heap.size + 1, 2, none⟩) (by simp only []; omega)).trans x_2
      replace hT := on hT z11
      replace t_0 := (z11.cell (p := ⟨w10.heap.size, 0, none⟩) (by simp only []; omega)).trans t_0
      replace t_1 := (z11.cell (p := ⟨w10.heap.size, 1, none⟩) (by simp only []; omega)).trans t_1
      replace t_2 := (z11.cell (p := ⟨w10.heap.size, 2, none⟩) (by simp only []; omega)).trans t_2
      replace hlc := on hlc z11
      replace y0 := (z11.cell (p := ⟨b1, o1 + k, none⟩) (by simp only []; omega)).trans y0
      replace yv0 := (z11.cell (p := ⟨yb1, yo1 + tn, none⟩) (by simp only []; omega)).trans yv0
      have iyc := iy.below hT
      go_wp2_with fail
      first | (go_region_held3 (fun W => W.cell? ⟨w10.heap.size, 2, none⟩ = some (.slice (some ⟨b1, o1, none⟩) vn vc) ∧ W.cell? ⟨b1, o1 + k, none⟩ = some (.slice (some ⟨yb1, yo1, none⟩) yn yc) ∧ W.cell? ⟨w.heap.size + 1, 1, none⟩ = some (.slice fb fn fc)) (first | exact ⟨t_2, y0, x_1⟩ | assumption) (first | (go_at_call 84; (with_reducible refine (sel_spec _ _ _ _ yc fc y fr _ (iyc.below (Below.refl _ _).drew) (i0.below hb8.drew) (by omega)).mono ?_); rintro e w9 ⟨p1, p2, p3, rfl, o1', z9⟩; replace z9 : Below w11.heap.size w11 w9 := on (Below.refl _ _).drew z9; have sz9 := z9.size; have hS9 := (⟨(z9.cell (p := ⟨w10.heap.size, 2, none⟩) (by simp only []; omega)).trans t_2, (z9.cell (p := ⟨b1, o1 + k, none⟩) (by simp only []; omega)).trans y0, (z9.cell (p := ⟨w.heap.size + 1, 1, none⟩) (by simp only []; omega)).trans x_1⟩ : (fun W => W.cell? ⟨w10.heap.size, 2, none⟩ = some (.slice (some ⟨b1, o1, none⟩) vn vc) ∧ W.cell? ⟨b1, o1 + k, none⟩ = some (.slice (some ⟨yb1, yo1, none⟩) yn yc) ∧ W.cell? ⟨w.heap.size + 1, 1, none⟩ = some (.slice fb fn fc)) w9); have hx9 := on hb8 z9))) | fail "held"
      replace z9 : Below w11.heap.size w11 w9 := z9
      clear hS9 hx9
      have s10 := z9.size
      have hb10 := on hb8 z9
      replace b_0 := (z9.cell (p := ⟨w.heap.size, 0, none⟩) (by simp only []; omega)).trans b_0
      replace x_0 := (z9.cell (p := ⟨w.heap.size + 1, 0, none⟩) (by simp only []; omega)).trans x_0
      replace x_1 := (z9.cell (p := ⟨w.heap.size + 1, 1, none⟩) (by simp only []; omega)).trans x_1
      replace x_2 := (z9.cell (p := ⟨w.heap.size + 1, 2, none⟩) (by simp only []; omega)).trans x_2
      replace hT := on hT z9
      replace t_0 := (z9.cell (p := ⟨w10.heap.size, 0, none⟩) (by simp only []; omega)).trans t_0
      replace t_1 := (z9.cell (p := ⟨w10.heap.size, 1, none⟩) (by simp only []; omega)).trans t_1
      replace t_2 := (z9.cell (p := ⟨w10.heap.size, 2, none⟩) (by simp only []; omega)).trans t_2
      replace hlc := on hlc z9
      replace y0 := (z9.cell (p := ⟨b1, o1 + k, none⟩) (by simp only []; omega)).trans y0
      replace yv0 := (z9.cell (p := ⟨yb1, yo1 + tn, none⟩) (by simp only []; omega)).trans yv0
      clear iyc
      go_wp2_with fail
      go_loopw [10] (fun i wr => ∃ j : Nat, j ≤ k ∧ i = .int .i64 j ∧ Hid (viol db (m1, fr, (tn : Int)) = orElse (violIn fr tn y k j ((rows.take k).drop j)) R) ∧ Below w9.heap.size w9 wr) (fun i _ => k - (intOf i).toNat)
      case atStart => exact ⟨0, Nat.zero_le _, rfl, HA.out, Below.refl _ _⟩
      case round =>
        obtain ⟨i, hi, rfl, hE, hdr⟩ := hrel
        have hld := hdr
        clear HA
        have s11 := hdr.size
        have hb11 := on hb10 hdr
        replace b_0 := (hdr.cell (p := ⟨w.heap.size, 0, none⟩) (by simp only []; omega)).trans b_0
        replace x_0 := (hdr.cell (p := ⟨w.heap.size + 1, 0, none⟩) (by simp only []; omega)).trans x_0
        replace x_1 := (hdr.cell (p := ⟨w.heap.size + 1, 1, none⟩) (by simp only []; omega)).trans x_1
        replace x_2 := (hdr.cell (p := ⟨w.heap.size + 1, 2, none⟩) (by simp only []; omega)).trans x_2
        replace hT := on hT hdr
        replace t_0 := (hdr.cell (p := ⟨w10.heap.size, 0, none⟩) (by simp only []; omega)).trans t_0
        replace t_1 := (hdr.cell (p := ⟨w10.heap.size, 1, none⟩) (by simp only []; omega)).trans t_1
        replace t_2 := (hdr.cell (p := ⟨w10.heap.size, 2, none⟩) (by simp only []; omega)).trans t_2
        replace hlc := on hlc hdr
        replace y0 := (hdr.cell (p := ⟨b1, o1 + k, none⟩) (by simp only []; omega)).trans y0
        replace yv0 := (hdr.cell (p := ⟨yb1, yo1 + tn, none⟩) (by simp only []; omega)).trans yv0
        replace o1' := o1'.below hdr (by omega)
        by_cases hlt2 : i < k
        · obtain ⟨b9, o9, xb, xn, xc, x, hb9, hcx, hx, ix, _⟩ := t1.row (show i < vn by omega)
          simp at hb9
          obtain ⟨rfl, rfl⟩ := hb9
          have hxA := (HR.out x (List.mem_of_getElem? hx.out)).1
          have hxl := ix.len
          have hxtn : tn < xn := by omega
          have x0 : wr.cell? ⟨b1, o1 + i, none⟩ = some (.slice xb xn xc) := (hT.cell (p := ⟨b1, o1 + i, none⟩) (cell_lt hcx)).trans hcx
          obtain ⟨xb1, xo1, xv, hxe, hcxv, hxv, _, _⟩ := ix.get hxtn
          subst hxe
          have hbt3 : xb1 < w10.heap.size := cell_lt hcxv
          have xv0 : wr.cell? ⟨xb1, xo1 + tn, none⟩ = some (.int .i64 xv) := (hT.cell (p := ⟨xb1, xo1 + tn, none⟩) (cell_lt hcxv)).trans hcxv
          have ixc := ix.below hT
          have hiv : (i : Int) < (vn : Int) := by omega
          have hvB : violB fr tn x y = (decide (sel x fr = sel y fr) && (xv != yv)) := by rw [violB, hxv.out, hyv.out]
          have HYes := Lib.hid (violIn_yes (fr := fr) (to := tn) (y := y) hlt2 hx.out · R)
          have HNo := Lib.hid (violIn_no (fr := fr) (to := tn) (y := y) hlt2 hx.out · R)
          rw [hvB] at HYes HNo
          clear hvB hcx hcxv hxA hxl
          go_wp2_with fail
          first | (go_region_held3 (fun W => W.cell? ⟨w10.heap.size, 2, none⟩ = some (.slice (some ⟨b1, o1, none⟩) vn vc) ∧ W.cell? ⟨b1, o1 + i, none⟩ = some (.slice (some ⟨xb1, xo1, none⟩) xn xc) ∧ W.cell? ⟨w.heap.size + 1, 1, none⟩ = some (.slice fb fn fc)) (first | exact ⟨t_2, x0, x_1⟩ | assumption) (first | (go_at_call 84; (with_reducible refine (sel_spec _ _ _ _ xc fc x fr _ (ixc.below (Below.refl _ _).drew) (i0.below hb11.drew) (by omega)).mono ?_); rintro e w12 ⟨q1, q2, q3, rfl, o2', z12⟩; replace z12 : Below wr.heap.size wr w12 := on (Below.refl _ _).drew z12; have sz12 := z12.size; have hS12 := (⟨(z12.cell (p := ⟨w10.heap.size, 2, none⟩) (by simp only []; omega)).trans t_2, (z12.cell (p := ⟨b1, o1 + i, none⟩) (by simp only []; omega)).trans x0, (z12.cell (p := ⟨w.heap.size + 1, 1, none⟩) (by simp only []; omega)).trans x_1⟩ : (fun W => W.cell? ⟨w10.heap.size, 2, none⟩ = some (.slice (some ⟨b1, o1, none⟩) vn vc) ∧ W.cell? ⟨b1, o1 + i, none⟩ = some (.slice (some ⟨xb1, xo1, none⟩) xn xc) ∧ W.cell? ⟨w.heap.size + 1, 1, none⟩ = some (.slice fb fn fc)) w12); have hx12 := on hb11 z12))) | fail "held"
          replace z12 : Below wr.heap.size wr w12 := z12
          clear hS12 hx12
          have s13 := z12.size
          have hb13 := on hb11 z12
          replace b_0 := (z12.cell (p := ⟨w.heap.size, 0, none⟩) (by simp only []; omega)).trans b_0
          replace x_0 := (z12.cell (p := ⟨w.heap.size + 1, 0, none⟩) (by simp only []; omega)).trans x_0
          replace x_1 := (z12.cell (p := ⟨w.heap.size + 1, 1, none⟩) (by simp only []; omega)).trans x_1
          replace x_2 := (z12.cell (p := ⟨w.heap.size + 1, 2, none⟩) (by simp only []; omega)).trans x_2
          replace hT := on hT z12
          replace t_0 := (z12.cell (p := ⟨w10.heap.size, 0, none⟩) (by simp only []; omega)).trans t_0
          replace t_1 := (z12.cell (p := ⟨w10.heap.size, 1, none⟩) (by simp only []; omega)).trans t_1
          replace t_2 := (z12.cell (p := ⟨w10.heap.size, 2, none⟩) (by simp only []; omega)).trans t_2
          replace hlc := on hlc z12
          replace y0 := (z12.cell (p := ⟨b1, o1 + k, none⟩) (by simp only []; omega)).trans y0
          replace yv0 := (z12.cell (p := ⟨yb1, yo1 + tn, none⟩) (by simp only []; omega)).trans yv0
          replace o1' := o1'.below z12 (by omega)
          replace hld := on hld z12
          replace x0 := (z12.cell (p := ⟨b1, o1 + i, none⟩) (by simp only []; omega)).trans x0
          replace xv0 := (z12.cell (p := ⟨xb1, xo1 + tn, none⟩) (by simp only []; omega)).trans xv0
          clear ixc
          have heq := fun q => cmp_spec q1 p1 q2 p2 q3 p3 (sel x fr) (sel y fr) (w12.drewN q) ((rI_ints (o2'.rd reads_I)).drewN q) ((rI_ints (o1'.rd reads_I)).drewN q)
          have hz := cmpRows_zero (sel x fr) (sel y fr)
          obtain ⟨g, hg⟩ : ∃ g, cmpRows (sel x fr) (sel y fr) = g := ⟨_, rfl⟩
          rw [hg] at hz
          rw [show decide (sel x fr = sel y fr) = decide (g = 0) from by rw [decide_eq_decide]; exact hz.symm] at HYes HNo
          simp only [hg] at heq
          have HEQ := Lib.hid heq
          clear heq hg hz
          by_cases hg0 : g = 0
          case neg =>
            have HE2 : Hid (viol db (m1, fr, (tn : Int)) = orElse (violIn fr tn y k (i + 1) ((rows.take k).drop (i + 1))) R) := Lib.hid (by rw [hE.out]; exact HNo.out (by simp [hg0]))
            have hd0 : (g == 0) = false := by simp [hg0]
            clear hE HYes HNo hg0
            go_wp2_with fail
            go_quiet ((go_at_call 85; exact quiet_drew (HEQ.out _)))
            go_wp2_with fail
            go_roundw
            case rel => exact ⟨i + 1, by omega, by go_num, HE2.out, onD hld ⟨_, rfl⟩⟩
            case measure => simp [intOf]; omega
          subst hg0
          by_cases hxy : xv = yv
          · have HE2 : Hid (viol db (m1, fr, (tn : Int)) = orElse (violIn fr tn y k (i + 1) ((rows.take k).drop (i + 1))) R) := Lib.hid (by rw [hE.out]; exact HNo.out (by simp [hxy]))
            have hd : (xv != yv) = false := by simp [hxy]
            have HXY := Lib.hid hxy
            clear hE HYes HNo hxy
            go_wp2_with fail
            go_quiet ((go_at_call 85; exact quiet_drew (HEQ.out _)))
            go_wp2_with fail
            go_roundw
            case rel => exact ⟨i + 1, by omega, by go_num, HE2.out, onD hld ⟨_, rfl⟩⟩
            case measure => simp [intOf]; omega
          · have HE2 : Hid (viol db (m1, fr, (tn : Int)) = [(i : Int), (k : Int)]) := Lib.hid (by rw [hE.out]; exact HYes.out (by simp [hxy]))
            have hd : (xv != yv) = true := by simp [hxy]
            have HXY := Lib.hid hxy
            clear hE HYes HNo hxy
            go_wp2_with fail
            go_quiet ((go_at_call 85; exact quiet_drew (HEQ.out _)))
            go_wp2_with fail
            go_ret
            refine ⟨_, rfl, by rw [HE2.out]; exact (own_two ⟨by omega, by omega⟩ ⟨by omega, by omega⟩).mono (by simp; omega) (by simp), ?_⟩
            exact (onD hb13 ⟨_, rfl⟩).alloc (by simp; omega) _
        · have HE2 : Hid (viol db (m1, fr, (tn : Int)) = violOut fr tn rows (k + 1) (rows.drop (k + 1))) := Lib.hid (by rw [hE.out, violIn_end (by omega), HR2.out])
          clear hE
          go_wp2_with fail
          go_roundw
          case rel => exact ⟨k + 1, by omega, by go_num, HE2.out, hlc⟩
          case measure => simp [intOf]; omega
    · have HE2 : Hid (viol db (m1, fr, (tn : Int)) = []) := Lib.hid (by rw [hE.out, violOut_end (by rw [HL.out]; omega)])
      clear hE
      go_wp2_with fail
      go_ret
      refine ⟨_, rfl, ?_, (hb7).alloc (by omega) _⟩
      rw [HE2.out]
      exact own_none_g (by omega) (by omega)

/-- Whether a dependency holds. -/
def holdsDp (db : DDb) (f : DDp) : Bool := validDp db f && decide ((viol db f).length = 0)

set_option maxHeartbeats 1000000 in
theorem holdsDp_impl (cs ds : List Value) (db : DDb) (x : DDp) (w : World) (h : rDb.rep w cs db) (h' : rDp.rep w ds x) :
    Calls Try.prog 43 #[.agg cs.toArray, .agg ds.toArray] w fun e w' => e = .returned (.bool (holdsDp db x)) ∧ Below w.heap.size w w' := by
  obtain ⟨ub, un, uc, rfl⟩ := rDb_form h
  obtain ⟨fb, fn, fc, rfl⟩ := rDp_form h'
  have HCV := Lib.hid (fun W (hW : Below w.heap.size w W) => validDp_impl _ _ db x W (rDb.mono h hW) (rDp.mono h' hW))
  have HCK := Lib.hid (fun W (hW : Below w.heap.size w W) => viol_impl _ _ db x W (rDb.mono h hW) (rDp.mono h' hW))
  obtain ⟨m1, fr, to⟩ := x
  have HV : Hid (holdsDp db (m1, fr, to) = (validDp db (m1, fr, to) && decide ((viol db (m1, fr, to)).length = 0))) := rfl
  obtain ⟨p, hp⟩ : ∃ p, validDp db (m1, fr, to) = p := ⟨_, rfl⟩
  obtain ⟨l, hl⟩ : ∃ l, viol db (m1, fr, to) = l := ⟨_, rfl⟩
  rw [hp, hl] at HV
  rw [hp] at HCV
  simp only [hl] at HCK
  clear hp hl h h'
  have hb0 : Below w.heap.size w w := Below.refl _ _
  go_enter Try.func43, Try.ntmps43
  obtain ⟨w1, hw1⟩ : ∃ W, W = w.alloc (.cells #[.slice ub un uc] 49) := ⟨_, rfl⟩
  have z1 : Below w.heap.size w w1 := by rw [hw1]; exact (Below.refl _ _).alloc (Nat.le_refl _) _
  have s1 : w1.heap.size = w.heap.size + 1 := by rw [hw1]; simp
  have hb1 := on hb0 z1
  have b_0 : w1.cell? ⟨w.heap.size, 0, none⟩ = some (.slice ub un uc) := by rw [hw1]; exact box_cell (Below.refl _ _) rfl
  have raw1_b_0 := b_0
  rw [hw1] at raw1_b_0
  obtain ⟨w2, hw2⟩ : ∃ W, W = w1.alloc (.cells #[.string m1, .slice fb fn fc, .int .i64 to] 68) := ⟨_, rfl⟩
  have z2 : Below w1.heap.size w1 w2 := by rw [hw2]; exact (Below.refl _ _).alloc (Nat.le_refl _) _
  have s2 : w2.heap.size = w1.heap.size + 1 := by rw [hw2]; simp
  have hb2 := on hb1 z2
  replace b_0 := (z2.cell (p := ⟨w.heap.size, 0, none⟩) (by simp only []; omega)).trans b_0
  have e2 : w1.heap.size = w.heap.size + 1 := by omega
  have x_0 : w2.cell? ⟨w1.heap.size, 0, none⟩ = some (.string m1) := by rw [hw2]; exact box_cell (Below.refl _ _) rfl
  have x_1 : w2.cell? ⟨w1.heap.size, 1, none⟩ = some (.slice fb fn fc) := by rw [hw2]; exact box_cell (Below.refl _ _) rfl
  have x_2 : w2.cell? ⟨w1.heap.size, 2, none⟩ = some (.int .i64 to) := by rw [hw2]; exact box_cell (Below.refl _ _) rfl
  rw [e2] at x_0 x_1 x_2
  have raw2_b_0 := b_0
  have raw2_x_0 := x_0
  have raw2_x_1 := x_1
  have raw2_x_2 := x_2
  rw [hw2, hw1] at raw2_b_0 raw2_x_0 raw2_x_1 raw2_x_2
  go_wp2_with fail
  rw [← hw1]
  rw [← hw2]
  clear hw2 hw1
  clear raw1_b_0 raw2_b_0 raw2_x_0 raw2_x_1 raw2_x_2
  refine (HCV.out _ hb2).mono ?_
  rintro e w9 ⟨rfl, z9⟩
  have s3 := z9.size
  have hb3 := on hb2 z9
  replace b_0 := (z9.cell (p := ⟨w.heap.size, 0, none⟩) (by simp only []; omega)).trans b_0
  replace x_0 := (z9.cell (p := ⟨w.heap.size + 1, 0, none⟩) (by simp only []; omega)).trans x_0
  replace x_1 := (z9.cell (p := ⟨w.heap.size + 1, 1, none⟩) (by simp only []; omega)).trans x_1
  replace x_2 := (z9.cell (p := ⟨w.heap.size + 1, 2, none⟩) (by simp only []; omega)).trans x_2
  cases p with
  | false =>
    go_wp2_with fail
    go_wp2_with fail
    go_ret
    exact ⟨ret_bool (by rw [HV.out]; rfl), hb3⟩
  | true =>
    go_wp2_with fail
    refine (HCK.out _ hb3).mono ?_
    rintro e w10 ⟨u, rfl, ho, z10⟩
    obtain ⟨vb, vn, vc, rfl⟩ := oI_form1 ho
    have hln := (rI_ints (ho.rd reads_I)).len
    have s4 := z10.size
    have hb4 := on hb3 z10
    replace b_0 := (z10.cell (p := ⟨w.heap.size, 0, none⟩) (by simp only []; omega)).trans b_0
    replace x_0 := (z10.cell (p := ⟨w.heap.size + 1, 0, none⟩) (by simp only []; omega)).trans x_0
    replace x_1 := (z10.cell (p := ⟨w.heap.size + 1, 1, none⟩) (by simp only []; omega)).trans x_1
    replace x_2 := (z10.cell (p := ⟨w.heap.size + 1, 2, none⟩) (by simp only []; omega)).trans x_2
    clear ho
    by_cases h0 : vn = 0
    · subst h0
      have HE := Lib.hid (show holdsDp db (m1, fr, to) = true by rw [HV.out, hln]; rfl)
      go_wp2_with fail
      go_wp2_with fail
      go_ret
      exact ⟨ret_bool HE.out.symm, hb4⟩
    · have HE := Lib.hid (show holdsDp db (m1, fr, to) = false by rw [HV.out, hln]; simp [h0])
      have hd : ((vn : Int) == 0) = false := by rw [beq_eq_false_iff_ne]; omega
      go_wp2_with fail
      go_wp2_with fail
      go_ret
      exact ⟨ret_bool HE.out.symm, hb4⟩

set_option maxHeartbeats 1000000 in
theorem holdsDp_spec (cs ds : List Value) (db : DDb) (x : DDp) (w : World) (h : rDb.rep w cs db) (h' : rDp.rep w ds x) :
    Calls Try.prog 42 #[.agg cs.toArray, .agg ds.toArray] w fun e w' => e = .returned (.bool (holdsDp db x)) ∧ Below w.heap.size w w' := by
  obtain ⟨ub, un, uc, rfl⟩ := rDb_form h
  obtain ⟨fb, fn, fc, rfl⟩ := rDp_form h'
  have HCV := Lib.hid (fun W (hW : Below w.heap.size w W) => validDp_spec _ _ db x W (rDb.mono h hW) (rDp.mono h' hW))
  have HCK := Lib.hid (fun W (hW : Below w.heap.size w W) => viol_spec _ _ db x W (rDb.mono h hW) (rDp.mono h' hW))
  obtain ⟨m1, fr, to⟩ := x
  have HV : Hid (holdsDp db (m1, fr, to) = (validDp db (m1, fr, to) && decide ((viol db (m1, fr, to)).length = 0))) := rfl
  obtain ⟨p, hp⟩ : ∃ p, validDp db (m1, fr, to) = p := ⟨_, rfl⟩
  obtain ⟨l, hl⟩ : ∃ l, viol db (m1, fr, to) = l := ⟨_, rfl⟩
  rw [hp, hl] at HV
  rw [hp] at HCV
  simp only [hl] at HCK
  clear hp hl h h'
  have hb0 : Below w.heap.size w w := Below.refl _ _
  go_enter Try.func42, Try.ntmps42
  obtain ⟨w1, hw1⟩ : ∃ W, W = w.alloc (.cells #[.slice ub un uc] 49) := ⟨_, rfl⟩
  have z1 : Below w.heap.size w w1 := by rw [hw1]; exact (Below.refl _ _).alloc (Nat.le_refl _) _
  have s1 : w1.heap.size = w.heap.size + 1 := by rw [hw1]; simp
  have hb1 := on hb0 z1
  have b_0 : w1.cell? ⟨w.heap.size, 0, none⟩ = some (.slice ub un uc) := by rw [hw1]; exact box_cell (Below.refl _ _) rfl
  have raw1_b_0 := b_0
  rw [hw1] at raw1_b_0
  obtain ⟨w2, hw2⟩ : ∃ W, W = w1.alloc (.cells #[.string m1, .slice fb fn fc, .int .i64 to] 68) := ⟨_, rfl⟩
  have z2 : Below w1.heap.size w1 w2 := by rw [hw2]; exact (Below.refl _ _).alloc (Nat.le_refl _) _
  have s2 : w2.heap.size = w1.heap.size + 1 := by rw [hw2]; simp
  have hb2 := on hb1 z2
  replace b_0 := (z2.cell (p := ⟨w.heap.size, 0, none⟩) (by simp only []; omega)).trans b_0
  have e2 : w1.heap.size = w.heap.size + 1 := by omega
  have x_0 : w2.cell? ⟨w1.heap.size, 0, none⟩ = some (.string m1) := by rw [hw2]; exact box_cell (Below.refl _ _) rfl
  have x_1 : w2.cell? ⟨w1.heap.size, 1, none⟩ = some (.slice fb fn fc) := by rw [hw2]; exact box_cell (Below.refl _ _) rfl
  have x_2 : w2.cell? ⟨w1.heap.size, 2, none⟩ = some (.int .i64 to) := by rw [hw2]; exact box_cell (Below.refl _ _) rfl
  rw [e2] at x_0 x_1 x_2
  have raw2_b_0 := b_0
  have raw2_x_0 := x_0
  have raw2_x_1 := x_1
  have raw2_x_2 := x_2
  rw [hw2, hw1] at raw2_b_0 raw2_x_0 raw2_x_1 raw2_x_2
  go_wp2_with fail
  rw [← hw1]
  rw [← hw2]
  clear hw2 hw1
  clear raw1_b_0 raw2_b_0 raw2_x_0 raw2_x_1 raw2_x_2
  refine (HCV.out _ hb2).mono ?_
  rintro e w9 ⟨rfl, z9⟩
  have s3 := z9.size
  have hb3 := on hb2 z9
  replace b_0 := (z9.cell (p := ⟨w.heap.size, 0, none⟩) (by simp only []; omega)).trans b_0
  replace x_0 := (z9.cell (p := ⟨w.heap.size + 1, 0, none⟩) (by simp only []; omega)).trans x_0
  replace x_1 := (z9.cell (p := ⟨w.heap.size + 1, 1, none⟩) (by simp only []; omega)).trans x_1
  replace x_2 := (z9.cell (p := ⟨w.heap.size + 1, 2, none⟩) (by simp only []; omega)).trans x_2
  cases p with
  | false =>
    go_wp2_with fail
    go_wp2_with fail
    go_ret
    exact ⟨ret_bool (by rw [HV.out]; rfl), hb3⟩
  | true =>
    go_wp2_with fail
    refine (HCK.out _ hb3).mono ?_
    rintro e w10 ⟨u, rfl, ho, z10⟩
    obtain ⟨vb, vn, vc, rfl⟩ := oI_form1 ho
    have hln := (rI_ints (ho.rd reads_I)).len
    have s4 := z10.size
    have hb4 := on hb3 z10
    replace b_0 := (z10.cell (p := ⟨w.heap.size, 0, none⟩) (by simp only []; omega)).trans b_0
    replace x_0 := (z10.cell (p := ⟨w.heap.size + 1, 0, none⟩) (by simp only []; omega)).trans x_0
    replace x_1 := (z10.cell (p := ⟨w.heap.size + 1, 1, none⟩) (by simp only []; omega)).trans x_1
    replace x_2 := (z10.cell (p := ⟨w.heap.size + 1, 2, none⟩) (by simp only []; omega)).trans x_2
    clear ho
    by_cases h0 : vn = 0
    · subst h0
      have HE := Lib.hid (show holdsDp db (m1, fr, to) = true by rw [HV.out, hln]; rfl)
      go_wp2_with fail
      go_wp2_with fail
      go_ret
      exact ⟨ret_bool HE.out.symm, hb4⟩
    · have HE := Lib.hid (show holdsDp db (m1, fr, to) = false by rw [HV.out, hln]; simp [h0])
      have hd : ((vn : Int) == 0) = false := by rw [beq_eq_false_iff_ne]; omega
      go_wp2_with fail
      go_wp2_with fail
      go_ret
      exact ⟨ret_bool HE.out.symm, hb4⟩

end Go.Proofs.Ythhbmbkecaffeaa

/- The walk of the law DependencyHolds. Written by a program. -/
namespace Go.Proofs.Ythhbmbkecaffeaa
open Go.RowKit
set_option linter.unusedVariables false
set_option linter.unusedSimpArgs false
set_option synthInstance.maxSize 2000
set_option synthInstance.maxHeartbeats 400000

set_option maxHeartbeats 4000000 in
set_option maxRecDepth 100000 in
theorem walk_FnExactDependencyHolds (v0 : Value) (v1 : Value) (w : World) (h0 : kDb_in w v0) (h1 : kDp_in w v1) :
    Calls Try.prog 9 #[v0, v1] w fun e w' => e = .returned (.bool true) ∧ Below w.heap.size w w' := by
  obtain ⟨c0, x0, rfl, h0⟩ := h0
  obtain ⟨bu0, nu0, cu0, rfl⟩ := rDb_form h0
  obtain ⟨c1, x1, rfl, h1⟩ := h1
  obtain ⟨bu1, nu1, cu1, rfl⟩ := rDp_form h1
  have hb0 : Below w.heap.size w w := Below.refl _ _
  go_enter Try.func9, Try.ntmps9
  obtain ⟨w1, hw1⟩ : ∃ W, W = w.alloc (.cells #[.slice bu0 nu0 cu0] 41) := ⟨_, rfl⟩
  have z1 : Below w.heap.size w w1 := by rw [hw1]; exact (Below.refl _ _).alloc (Nat.le_refl _) _
  have s1 : w1.heap.size = w.heap.size + 1 := by rw [hw1]; simp
  have hb1 := on hb0 z1
  have bp0_0 : w1.cell? ⟨w.heap.size, 0, none⟩ = some (.slice bu0 nu0 cu0) := by rw [hw1]; exact box_cell (Below.refl _ _) rfl
  obtain ⟨w2, hw2⟩ : ∃ W, W = w1.alloc (.cells #[.string x1.1, .slice bu1 nu1 cu1, .int .i64 x1.2.2] 65) := ⟨_, rfl⟩
  have z2 : Below w1.heap.size w1 w2 := by rw [hw2]; exact (Below.refl _ _).alloc (Nat.le_refl _) _
  have s2 : w2.heap.size = w1.heap.size + 1 := by rw [hw2]; simp
  have hb2 := on hb1 z2
  replace bp0_0 := (z2.cell (p := ⟨w.heap.size, 0, none⟩) (by simp only []; omega)).trans bp0_0
  have bp1_0 : w2.cell? ⟨w1.heap.size, 0, none⟩ = some (.string x1.1) := by rw [hw2]; exact box_cell (Below.refl _ _) rfl
  have bp1_1 : w2.cell? ⟨w1.heap.size, 1, none⟩ = some (.slice bu1 nu1 cu1) := by rw [hw2]; exact box_cell (Below.refl _ _) rfl
  have bp1_2 : w2.cell? ⟨w1.heap.size, 2, none⟩ = some (.int .i64 x1.2.2) := by rw [hw2]; exact box_cell (Below.refl _ _) rfl
  have e2 : w1.heap.size = w.heap.size + 1 := by omega
  rw [e2] at bp1_0 bp1_1 bp1_2
  go_wp2_with fail
  rw [← hw1]
  clear hw1
  rw [← hw2]
  clear hw2
  refine (sz_Db _ x0 (1048576) _ (rDb.mono h0 hb2) (by omega) (by omega)).mono ?_
  rintro e w3 ⟨rfl, z3⟩
  have s3 := z3.size
  have hb3 := on hb2 z3
  replace bp0_0 := (z3.cell (p := ⟨w.heap.size, 0, none⟩) (by simp only []; omega)).trans bp0_0
  replace bp1_0 := (z3.cell (p := ⟨w.heap.size + 1, 0, none⟩) (by simp only []; omega)).trans bp1_0
  replace bp1_1 := (z3.cell (p := ⟨w.heap.size + 1, 1, none⟩) (by simp only []; omega)).trans bp1_1
  replace bp1_2 := (z3.cell (p := ⟨w.heap.size + 1, 2, none⟩) (by simp only []; omega)).trans bp1_2
  obtain ⟨q0, hq0⟩ : ∃ q, q = szR (1048576) (bulk_Db x0) := ⟨_, rfl⟩
  rw [← hq0]
  have hc0 := szR_cases (1048576) (bulk_Db x0)
  rw [← hq0] at hc0
  clear hq0
  rcases hc0 with ⟨rfl, _⟩ | ⟨hq0, hbk0⟩
  · go_wp2_with fail
    go_ret
    exact ⟨rfl, hb3⟩
  have hlo0 : 0 ≤ q0 ∧ q0 ≤ 1048576 := by omega
  have hbl0 : bulk_Db x0 ≤ 1048576 := by omega
  obtain ⟨hlo0, hlp0⟩ := hlo0
  have HQ0 := Lib.hid hq0
  clear hq0 hbk0
  go_wp2_with fail
  refine (sz_Dp _ x1 (q0) _ (rDp.mono h1 hb3) (by omega) (by omega)).mono ?_
  rintro e w4 ⟨rfl, z4⟩
  have s4 := z4.size
  have hb4 := on hb3 z4
  replace bp0_0 := (z4.cell (p := ⟨w.heap.size, 0, none⟩) (by simp only []; omega)).trans bp0_0
  replace bp1_0 := (z4.cell (p := ⟨w.heap.size + 1, 0, none⟩) (by simp only []; omega)).trans bp1_0
  replace bp1_1 := (z4.cell (p := ⟨w.heap.size + 1, 1, none⟩) (by simp only []; omega)).trans bp1_1
  replace bp1_2 := (z4.cell (p := ⟨w.heap.size + 1, 2, none⟩) (by simp only []; omega)).trans bp1_2
  obtain ⟨q1, hq1⟩ : ∃ q, q = szR (q0) (bulk_Dp x1) := ⟨_, rfl⟩
  rw [← hq1]
  have hc1 := szR_cases (q0) (bulk_Dp x1)
  rw [← hq1] at hc1
  clear hq1
  rcases hc1 with ⟨rfl, _⟩ | ⟨hq1, hbk1⟩
  · go_wp2_with fail
    go_ret
    exact ⟨rfl, hb4⟩
  have hlo1 : 0 ≤ q1 ∧ q1 ≤ 1048576 := by omega
  have hbl1 : bulk_Dp x1 ≤ 1048576 := by omega
  obtain ⟨hlo1, hlp1⟩ := hlo1
  have HQ1 := Lib.hid hq1
  clear hq1 hbk1
  go_wp2_with fail
  go_region_held3 (fun W => W.cell? ⟨w.heap.size, 0, none⟩ = some (.slice bu0 nu0 cu0) ∧ W.cell? ⟨w.heap.size + 1, 0, none⟩ = some (.string x1.1) ∧ W.cell? ⟨w.heap.size + 1, 1, none⟩ = some (.slice bu1 nu1 cu1) ∧ W.cell? ⟨w.heap.size + 1, 2, none⟩ = some (.int .i64 x1.2.2)) (first | exact ⟨bp0_0, bp1_0, bp1_1, bp1_2⟩ | assumption) (first | (go_at_call 28; with_reducible (show Calls Try.prog 28 #[.agg #[.slice bu0 nu0 cu0]] _ _); refine (to_Db _ x0 _ (rDb.mono h0 hb4.drew) (by omega)).mono ?_; rintro e w5 ⟨ct0, rfl, t0, z5⟩; replace z5 : Below w4.heap.size w4 w5 := on (Below.refl _ _).drew z5; have sz5 := z5.size; obtain ⟨but0, nut0, cut0, rfl⟩ := oDb_form t0; have hS5 := (⟨(z5.cell (p := ⟨w.heap.size, 0, none⟩) (by simp only []; omega)).trans bp0_0, (z5.cell (p := ⟨w.heap.size + 1, 0, none⟩) (by simp only []; omega)).trans bp1_0, (z5.cell (p := ⟨w.heap.size + 1, 1, none⟩) (by simp only []; omega)).trans bp1_1, (z5.cell (p := ⟨w.heap.size + 1, 2, none⟩) (by simp only []; omega)).trans bp1_2⟩ : (fun W => W.cell? ⟨w.heap.size, 0, none⟩ = some (.slice bu0 nu0 cu0) ∧ W.cell? ⟨w.heap.size + 1, 0, none⟩ = some (.string x1.1) ∧ W.cell? ⟨w.heap.size + 1, 1, none⟩ = some (.slice bu1 nu1 cu1) ∧ W.cell? ⟨w.heap.size + 1, 2, none⟩ = some (.int .i64 x1.2.2)) w5); have hx5 := on hb4 z5) | (go_at_call 39; with_reducible (show Calls Try.prog 39 #[.agg #[.string x1.1, .slice bu1 nu1 cu1, .int .i64 x1.2.2]] _ _); refine (to_Dp _ x1 _ (rDp.mono h1 hx5) (by omega)).mono ?_; rintro e w6 ⟨ct1, rfl, t1, z6⟩; have sz6 := z6.size; obtain ⟨but1, nut1, cut1, rfl⟩ := oDp_form t1; replace t0 := t0.below z6 (by omega); have hS6 := (⟨(z6.cell (p := ⟨w.heap.size, 0, none⟩) (by simp only []; omega)).trans hS5.1, (z6.cell (p := ⟨w.heap.size + 1, 0, none⟩) (by simp only []; omega)).trans hS5.2.1, (z6.cell (p := ⟨w.heap.size + 1, 1, none⟩) (by simp only []; omega)).trans hS5.2.2.1, (z6.cell (p := ⟨w.heap.size + 1, 2, none⟩) (by simp only []; omega)).trans hS5.2.2.2⟩ : (fun W => W.cell? ⟨w.heap.size, 0, none⟩ = some (.slice bu0 nu0 cu0) ∧ W.cell? ⟨w.heap.size + 1, 0, none⟩ = some (.string x1.1) ∧ W.cell? ⟨w.heap.size + 1, 1, none⟩ = some (.slice bu1 nu1 cu1) ∧ W.cell? ⟨w.heap.size + 1, 2, none⟩ = some (.int .i64 x1.2.2)) w6); have hx6 := on hx5 z6) | (go_at_call 42; refine (holdsDp_spec _ _ x0 x1 _ (t0.rd reads_Db) (t1.rd reads_Dp)).mono ?_; rintro e w7 ⟨rfl, z7⟩; have sz7 := z7.size; replace t0 := t0.below z7 (by omega); replace t1 := t1.below z7 (by omega); have hS7 := (⟨(z7.cell (p := ⟨w.heap.size, 0, none⟩) (by simp only []; omega)).trans hS6.1, (z7.cell (p := ⟨w.heap.size + 1, 0, none⟩) (by simp only []; omega)).trans hS6.2.1, (z7.cell (p := ⟨w.heap.size + 1, 1, none⟩) (by simp only []; omega)).trans hS6.2.2.1, (z7.cell (p := ⟨w.heap.size + 1, 2, none⟩) (by simp only []; omega)).trans hS6.2.2.2⟩ : (fun W => W.cell? ⟨w.heap.size, 0, none⟩ = some (.slice bu0 nu0 cu0) ∧ W.cell? ⟨w.heap.size + 1, 0, none⟩ = some (.string x1.1) ∧ W.cell? ⟨w.heap.size + 1, 1, none⟩ = some (.slice bu1 nu1 cu1) ∧ W.cell? ⟨w.heap.size + 1, 2, none⟩ = some (.int .i64 x1.2.2)) w7); have hx7 := on hx6 z7))
  replace z5 : Below w4.heap.size w4 w5 := z5
  replace z6 : Below w5.heap.size w5 w6 := z6
  replace z7 : Below w6.heap.size w6 w7 := z7
  clear hS5 hx5 hS6 hx6 hS7 hx7 t0 t1
  have t5 := z5.size
  have hb5 := on hb4 z5
  replace bp0_0 := (z5.cell (p := ⟨w.heap.size, 0, none⟩) (by simp only []; omega)).trans bp0_0
  replace bp1_0 := (z5.cell (p := ⟨w.heap.size + 1, 0, none⟩) (by simp only []; omega)).trans bp1_0
  replace bp1_1 := (z5.cell (p := ⟨w.heap.size + 1, 1, none⟩) (by simp only []; omega)).trans bp1_1
  replace bp1_2 := (z5.cell (p := ⟨w.heap.size + 1, 2, none⟩) (by simp only []; omega)).trans bp1_2
  have t6 := z6.size
  have hb6 := on hb5 z6
  replace bp0_0 := (z6.cell (p := ⟨w.heap.size, 0, none⟩) (by simp only []; omega)).trans bp0_0
  replace bp1_0 := (z6.cell (p := ⟨w.heap.size + 1, 0, none⟩) (by simp only []; omega)).trans bp1_0
  replace bp1_1 := (z6.cell (p := ⟨w.heap.size + 1, 1, none⟩) (by simp only []; omega)).trans bp1_1
  replace bp1_2 := (z6.cell (p := ⟨w.heap.size + 1, 2, none⟩) (by simp only []; omega)).trans bp1_2
  have t7 := z7.size
  have hb7 := on hb6 z7
  replace bp0_0 := (z7.cell (p := ⟨w.heap.size, 0, none⟩) (by simp only []; omega)).trans bp0_0
  replace bp1_0 := (z7.cell (p := ⟨w.heap.size + 1, 0, none⟩) (by simp only []; omega)).trans bp1_0
  replace bp1_1 := (z7.cell (p := ⟨w.heap.size + 1, 1, none⟩) (by simp only []; omega)).trans bp1_1
  replace bp1_2 := (z7.cell (p := ⟨w.heap.size + 1, 2, none⟩) (by simp only []; omega)).trans bp1_2
  go_wp2_with fail
  refine (to_Db _ _ _ (rDb.mono h0 hb7) (by omega)).mono ?_
  rintro e w8 ⟨cy0, rfl, y0, z8⟩
  have s8 := z8.size
  have hb8 := on hb7 z8
  replace bp0_0 := (z8.cell (p := ⟨w.heap.size, 0, none⟩) (by simp only []; omega)).trans bp0_0
  replace bp1_0 := (z8.cell (p := ⟨w.heap.size + 1, 0, none⟩) (by simp only []; omega)).trans bp1_0
  replace bp1_1 := (z8.cell (p := ⟨w.heap.size + 1, 1, none⟩) (by simp only []; omega)).trans bp1_1
  replace bp1_2 := (z8.cell (p := ⟨w.heap.size + 1, 2, none⟩) (by simp only []; omega)).trans bp1_2
  obtain ⟨buy0, nuy0, cuy0, rfl⟩ := oDb_form y0
  obtain ⟨w9, hw9⟩ : ∃ W, W = w8.alloc (.cells #[.slice buy0 nuy0 cuy0] 49) := ⟨_, rfl⟩
  have z9 : Below w8.heap.size w8 w9 := by rw [hw9]; exact (Below.refl _ _).alloc (Nat.le_refl _) _
  have s9 : w9.heap.size = w8.heap.size + 1 := by rw [hw9]; simp
  have hb9 := on hb8 z9
  replace y0 := y0.below z9 (by omega)
  replace bp0_0 := (z9.cell (p := ⟨w.heap.size, 0, none⟩) (by simp only []; omega)).trans bp0_0
  replace bp1_0 := (z9.cell (p := ⟨w.heap.size + 1, 0, none⟩) (by simp only []; omega)).trans bp1_0
  replace bp1_1 := (z9.cell (p := ⟨w.heap.size + 1, 1, none⟩) (by simp only []; omega)).trans bp1_1
  replace bp1_2 := (z9.cell (p := ⟨w.heap.size + 1, 2, none⟩) (by simp only []; omega)).trans bp1_2
  have by0_0 : w9.cell? ⟨w8.heap.size, 0, none⟩ = some (.slice buy0 nuy0 cuy0) := by rw [hw9]; exact box_cell (Below.refl _ _) rfl
  have raw_bp0_0 := bp0_0
  rw [hw9] at raw_bp0_0
  have raw_bp1_0 := bp1_0
  rw [hw9] at raw_bp1_0
  have raw_bp1_1 := bp1_1
  rw [hw9] at raw_bp1_1
  have raw_bp1_2 := bp1_2
  rw [hw9] at raw_bp1_2
  have raw_by0_0 := by0_0
  rw [hw9] at raw_by0_0
  go_wp2_with fail
  rw [← hw9]
  clear hw9
  clear raw_bp0_0 raw_bp1_0 raw_bp1_1 raw_bp1_2 raw_by0_0
  refine (to_Dp _ _ _ (rDp.mono h1 hb9) (by omega)).mono ?_
  rintro e w10 ⟨cy1, rfl, y1, z10⟩
  have s10 := z10.size
  have hb10 := on hb9 z10
  replace y0 := y0.below z10 (by omega)
  replace bp0_0 := (z10.cell (p := ⟨w.heap.size, 0, none⟩) (by simp only []; omega)).trans bp0_0
  replace bp1_0 := (z10.cell (p := ⟨w.heap.size + 1, 0, none⟩) (by simp only []; omega)).trans bp1_0
  replace bp1_1 := (z10.cell (p := ⟨w.heap.size + 1, 1, none⟩) (by simp only []; omega)).trans bp1_1
  replace bp1_2 := (z10.cell (p := ⟨w.heap.size + 1, 2, none⟩) (by simp only []; omega)).trans bp1_2
  replace by0_0 := (z10.cell (p := ⟨w8.heap.size, 0, none⟩) (by simp only []; omega)).trans by0_0
  obtain ⟨buy1, nuy1, cuy1, rfl⟩ := oDp_form y1
  obtain ⟨w11, hw11⟩ : ∃ W, W = w10.alloc (.cells #[.string x1.1, .slice buy1 nuy1 cuy1, .int .i64 x1.2.2] 68) := ⟨_, rfl⟩
  have z11 : Below w10.heap.size w10 w11 := by rw [hw11]; exact (Below.refl _ _).alloc (Nat.le_refl _) _
  have s11 : w11.heap.size = w10.heap.size + 1 := by rw [hw11]; simp
  have hb11 := on hb10 z11
  replace y0 := y0.below z11 (by omega)
  replace y1 := y1.below z11 (by omega)
  replace bp0_0 := (z11.cell (p := ⟨w.heap.size, 0, none⟩) (by simp only []; omega)).trans bp0_0
  replace bp1_0 := (z11.cell (p := ⟨w.heap.size + 1, 0, none⟩) (by simp only []; omega)).trans bp1_0
  replace bp1_1 := (z11.cell (p := ⟨w.heap.size + 1, 1, none⟩) (by simp only []; omega)).trans bp1_1
  replace bp1_2 := (z11.cell (p := ⟨w.heap.size + 1, 2, none⟩) (by simp only []; omega)).trans bp1_2
  replace by0_0 := (z11.cell (p := ⟨w8.heap.size, 0, none⟩) (by simp only []; omega)).trans by0_0
  have by1_0 : w11.cell? ⟨w10.heap.size, 0, none⟩ = some (.string x1.1) := by rw [hw11]; exact box_cell (Below.refl _ _) rfl
  have by1_1 : w11.cell? ⟨w10.heap.size, 1, none⟩ = some (.slice buy1 nuy1 cuy1) := by rw [hw11]; exact box_cell (Below.refl _ _) rfl
  have by1_2 : w11.cell? ⟨w10.heap.size, 2, none⟩ = some (.int .i64 x1.2.2) := by rw [hw11]; exact box_cell (Below.refl _ _) rfl
  have raw_bp0_0 := bp0_0
  rw [hw11] at raw_bp0_0
  have raw_bp1_0 := bp1_0
  rw [hw11] at raw_bp1_0
  have raw_bp1_1 := bp1_1
  rw [hw11] at raw_bp1_1
  have raw_bp1_2 := bp1_2
  rw [hw11] at raw_bp1_2
  have raw_by0_0 := by0_0
  rw [hw11] at raw_by0_0
  have raw_by1_0 := by1_0
  rw [hw11] at raw_by1_0
  have raw_by1_1 := by1_1
  rw [hw11] at raw_by1_1
  have raw_by1_2 := by1_2
  rw [hw11] at raw_by1_2
  go_wp2_with fail
  rw [← hw11]
  clear hw11
  clear raw_bp0_0 raw_bp1_0 raw_bp1_1 raw_bp1_2 raw_by0_0 raw_by1_0 raw_by1_1 raw_by1_2
  refine (holdsDp_impl _ _ x0 x1 _ (y0.rd reads_Db) (y1.rd reads_Dp)).mono ?_
  rintro e w12 ⟨rfl, z12⟩
  have s12 := z12.size
  have hb12 := on hb11 z12
  replace y0 := y0.below z12 (by omega)
  replace y1 := y1.below z12 (by omega)
  replace bp0_0 := (z12.cell (p := ⟨w.heap.size, 0, none⟩) (by simp only []; omega)).trans bp0_0
  replace bp1_0 := (z12.cell (p := ⟨w.heap.size + 1, 0, none⟩) (by simp only []; omega)).trans bp1_0
  replace bp1_1 := (z12.cell (p := ⟨w.heap.size + 1, 1, none⟩) (by simp only []; omega)).trans bp1_1
  replace bp1_2 := (z12.cell (p := ⟨w.heap.size + 1, 2, none⟩) (by simp only []; omega)).trans bp1_2
  replace by0_0 := (z12.cell (p := ⟨w8.heap.size, 0, none⟩) (by simp only []; omega)).trans by0_0
  replace by1_0 := (z12.cell (p := ⟨w10.heap.size, 0, none⟩) (by simp only []; omega)).trans by1_0
  replace by1_1 := (z12.cell (p := ⟨w10.heap.size, 1, none⟩) (by simp only []; omega)).trans by1_1
  replace by1_2 := (z12.cell (p := ⟨w10.heap.size, 2, none⟩) (by simp only []; omega)).trans by1_2
  go_wp2_with fail
  go_region_held3 (fun W => W.cell? ⟨w8.heap.size, 0, none⟩ = some (.slice buy0 nuy0 cuy0) ∧ W.cell? ⟨w.heap.size, 0, none⟩ = some (.slice bu0 nu0 cu0)) (first | exact ⟨by0_0, bp0_0⟩ | assumption) (first | (go_at_call 28; refine (to_Db _ x0 _ (rDb.mono h0 hb12.drew) (by omega)).mono ?_; rintro e w13 ⟨du0, rfl, u0, z13⟩; replace z13 : Below w12.heap.size w12 w13 := (Below.refl _ _).drew.trans z13; have hS0 := (⟨(z13.cell (p := ⟨w8.heap.size, 0, none⟩) (by simp only []; omega)).trans by0_0, (z13.cell (p := ⟨w.heap.size, 0, none⟩) (by simp only []; omega)).trans bp0_0⟩ : (fun W => W.cell? ⟨w8.heap.size, 0, none⟩ = some (.slice buy0 nuy0 cuy0) ∧ W.cell? ⟨w.heap.size, 0, none⟩ = some (.slice bu0 nu0 cu0)) w13); obtain ⟨buu0, nuu0, cuu0, rfl⟩ := oDb_form u0; have y0' := y0.below z13 (by omega)) | (go_at_call 31; refine (eq_Db _ _ x0 x0 _ (y0'.rd reads_Db) (u0.rd reads_Db)).mono ?_; rintro e w14 ⟨rfl, z14⟩; have s13 := z13.size; have hT0 := (⟨(z14.cell (p := ⟨w8.heap.size, 0, none⟩) (by simp only []; omega)).trans hS0.1, (z14.cell (p := ⟨w.heap.size, 0, none⟩) (by simp only []; omega)).trans hS0.2⟩ : (fun W => W.cell? ⟨w8.heap.size, 0, none⟩ = some (.slice buy0 nuy0 cuy0) ∧ W.cell? ⟨w.heap.size, 0, none⟩ = some (.slice bu0 nu0 cu0)) w14)))
  replace z13 : Below w12.heap.size w12 w13 := z13
  clear u0 y0' hS0 hT0
  have t13 := z13.size
  have hb13 := on hb12 z13
  replace y0 := y0.below z13 (by omega)
  replace y1 := y1.below z13 (by omega)
  replace bp0_0 := (z13.cell (p := ⟨w.heap.size, 0, none⟩) (by simp only []; omega)).trans bp0_0
  replace bp1_0 := (z13.cell (p := ⟨w.heap.size + 1, 0, none⟩) (by simp only []; omega)).trans bp1_0
  replace bp1_1 := (z13.cell (p := ⟨w.heap.size + 1, 1, none⟩) (by simp only []; omega)).trans bp1_1
  replace bp1_2 := (z13.cell (p := ⟨w.heap.size + 1, 2, none⟩) (by simp only []; omega)).trans bp1_2
  replace by0_0 := (z13.cell (p := ⟨w8.heap.size, 0, none⟩) (by simp only []; omega)).trans by0_0
  replace by1_0 := (z13.cell (p := ⟨w10.heap.size, 0, none⟩) (by simp only []; omega)).trans by1_0
  replace by1_1 := (z13.cell (p := ⟨w10.heap.size, 1, none⟩) (by simp only []; omega)).trans by1_1
  replace by1_2 := (z13.cell (p := ⟨w10.heap.size, 2, none⟩) (by simp only []; omega)).trans by1_2
  have t14 := z14.size
  have hb14 := on hb13 z14
  replace y0 := y0.below z14 (by omega)
  replace y1 := y1.below z14 (by omega)
  replace bp0_0 := (z14.cell (p := ⟨w.heap.size, 0, none⟩) (by simp only []; omega)).trans bp0_0
  replace bp1_0 := (z14.cell (p := ⟨w.heap.size + 1, 0, none⟩) (by simp only []; omega)).trans bp1_0
  replace bp1_1 := (z14.cell (p := ⟨w.heap.size + 1, 1, none⟩) (by simp only []; omega)).trans bp1_1
  replace bp1_2 := (z14.cell (p := ⟨w.heap.size + 1, 2, none⟩) (by simp only []; omega)).trans bp1_2
  replace by0_0 := (z14.cell (p := ⟨w8.heap.size, 0, none⟩) (by simp only []; omega)).trans by0_0
  replace by1_0 := (z14.cell (p := ⟨w10.heap.size, 0, none⟩) (by simp only []; omega)).trans by1_0
  replace by1_1 := (z14.cell (p := ⟨w10.heap.size, 1, none⟩) (by simp only []; omega)).trans by1_1
  replace by1_2 := (z14.cell (p := ⟨w10.heap.size, 2, none⟩) (by simp only []; omega)).trans by1_2
  go_wp2_with fail
  go_region_held3 (fun W => W.cell? ⟨w10.heap.size, 0, none⟩ = some (.string x1.1) ∧ W.cell? ⟨w10.heap.size, 1, none⟩ = some (.slice buy1 nuy1 cuy1) ∧ W.cell? ⟨w10.heap.size, 2, none⟩ = some (.int .i64 x1.2.2) ∧ W.cell? ⟨w.heap.size + 1, 0, none⟩ = some (.string x1.1) ∧ W.cell? ⟨w.heap.size + 1, 1, none⟩ = some (.slice bu1 nu1 cu1) ∧ W.cell? ⟨w.heap.size + 1, 2, none⟩ = some (.int .i64 x1.2.2)) (first | exact ⟨by1_0, by1_1, by1_2, bp1_0, bp1_1, bp1_2⟩ | assumption) (first | (go_at_call 39; refine (to_Dp _ x1 _ (rDp.mono h1 hb14.drew) (by omega)).mono ?_; rintro e w15 ⟨du1, rfl, u1, z15⟩; replace z15 : Below w14.heap.size w14 w15 := (Below.refl _ _).drew.trans z15; have hS1 := (⟨(z15.cell (p := ⟨w10.heap.size, 0, none⟩) (by simp only []; omega)).trans by1_0, (z15.cell (p := ⟨w10.heap.size, 1, none⟩) (by simp only []; omega)).trans by1_1, (z15.cell (p := ⟨w10.heap.size, 2, none⟩) (by simp only []; omega)).trans by1_2, (z15.cell (p := ⟨w.heap.size + 1, 0, none⟩) (by simp only []; omega)).trans bp1_0, (z15.cell (p := ⟨w.heap.size + 1, 1, none⟩) (by simp only []; omega)).trans bp1_1, (z15.cell (p := ⟨w.heap.size + 1, 2, none⟩) (by simp only []; omega)).trans bp1_2⟩ : (fun W => W.cell? ⟨w10.heap.size, 0, none⟩ = some (.string x1.1) ∧ W.cell? ⟨w10.heap.size, 1, none⟩ = some (.slice buy1 nuy1 cuy1) ∧ W.cell? ⟨w10.heap.size, 2, none⟩ = some (.int .i64 x1.2.2) ∧ W.cell? ⟨w.heap.size + 1, 0, none⟩ = some (.string x1.1) ∧ W.cell? ⟨w.heap.size + 1, 1, none⟩ = some (.slice bu1 nu1 cu1) ∧ W.cell? ⟨w.heap.size + 1, 2, none⟩ = some (.int .i64 x1.2.2)) w15); obtain ⟨buu1, nuu1, cuu1, rfl⟩ := oDp_form u1; have y1' := y1.below z15 (by omega)) | (go_at_call 41; refine (eq_Dp _ _ x1 x1 _ (y1'.rd reads_Dp) (u1.rd reads_Dp)).mono ?_; rintro e w16 ⟨rfl, z16⟩; have s15 := z15.size; have hT1 := (⟨(z16.cell (p := ⟨w10.heap.size, 0, none⟩) (by simp only []; omega)).trans hS1.1, (z16.cell (p := ⟨w10.heap.size, 1, none⟩) (by simp only []; omega)).trans hS1.2.1, (z16.cell (p := ⟨w10.heap.size, 2, none⟩) (by simp only []; omega)).trans hS1.2.2.1, (z16.cell (p := ⟨w.heap.size + 1, 0, none⟩) (by simp only []; omega)).trans hS1.2.2.2.1, (z16.cell (p := ⟨w.heap.size + 1, 1, none⟩) (by simp only []; omega)).trans hS1.2.2.2.2.1, (z16.cell (p := ⟨w.heap.size + 1, 2, none⟩) (by simp only []; omega)).trans hS1.2.2.2.2.2⟩ : (fun W => W.cell? ⟨w10.heap.size, 0, none⟩ = some (.string x1.1) ∧ W.cell? ⟨w10.heap.size, 1, none⟩ = some (.slice buy1 nuy1 cuy1) ∧ W.cell? ⟨w10.heap.size, 2, none⟩ = some (.int .i64 x1.2.2) ∧ W.cell? ⟨w.heap.size + 1, 0, none⟩ = some (.string x1.1) ∧ W.cell? ⟨w.heap.size + 1, 1, none⟩ = some (.slice bu1 nu1 cu1) ∧ W.cell? ⟨w.heap.size + 1, 2, none⟩ = some (.int .i64 x1.2.2)) w16)))
  replace z15 : Below w14.heap.size w14 w15 := z15
  clear u1 y1' hS1 hT1
  have t15 := z15.size
  have hb15 := on hb14 z15
  replace y0 := y0.below z15 (by omega)
  replace y1 := y1.below z15 (by omega)
  replace bp0_0 := (z15.cell (p := ⟨w.heap.size, 0, none⟩) (by simp only []; omega)).trans bp0_0
  replace bp1_0 := (z15.cell (p := ⟨w.heap.size + 1, 0, none⟩) (by simp only []; omega)).trans bp1_0
  replace bp1_1 := (z15.cell (p := ⟨w.heap.size + 1, 1, none⟩) (by simp only []; omega)).trans bp1_1
  replace bp1_2 := (z15.cell (p := ⟨w.heap.size + 1, 2, none⟩) (by simp only []; omega)).trans bp1_2
  replace by0_0 := (z15.cell (p := ⟨w8.heap.size, 0, none⟩) (by simp only []; omega)).trans by0_0
  replace by1_0 := (z15.cell (p := ⟨w10.heap.size, 0, none⟩) (by simp only []; omega)).trans by1_0
  replace by1_1 := (z15.cell (p := ⟨w10.heap.size, 1, none⟩) (by simp only []; omega)).trans by1_1
  replace by1_2 := (z15.cell (p := ⟨w10.heap.size, 2, none⟩) (by simp only []; omega)).trans by1_2
  have t16 := z16.size
  have hb16 := on hb15 z16
  replace y0 := y0.below z16 (by omega)
  replace y1 := y1.below z16 (by omega)
  replace bp0_0 := (z16.cell (p := ⟨w.heap.size, 0, none⟩) (by simp only []; omega)).trans bp0_0
  replace bp1_0 := (z16.cell (p := ⟨w.heap.size + 1, 0, none⟩) (by simp only []; omega)).trans bp1_0
  replace bp1_1 := (z16.cell (p := ⟨w.heap.size + 1, 1, none⟩) (by simp only []; omega)).trans bp1_1
  replace bp1_2 := (z16.cell (p := ⟨w.heap.size + 1, 2, none⟩) (by simp only []; omega)).trans bp1_2
  replace by0_0 := (z16.cell (p := ⟨w8.heap.size, 0, none⟩) (by simp only []; omega)).trans by0_0
  replace by1_0 := (z16.cell (p := ⟨w10.heap.size, 0, none⟩) (by simp only []; omega)).trans by1_0
  replace by1_1 := (z16.cell (p := ⟨w10.heap.size, 1, none⟩) (by simp only []; omega)).trans by1_1
  replace by1_2 := (z16.cell (p := ⟨w10.heap.size, 2, none⟩) (by simp only []; omega)).trans by1_2
  go_wp2_with fail
  go_ret
  exact ⟨rfl, hb16⟩

end Go.Proofs.Ythhbmbkecaffeaa

/- The law FnExactDependencyHolds: the walk is lifted to the given statement: for every input the law returns true and its arguments read as they did.
   No condition beside those of the row. -/
namespace Go.Proofs.Ythhbmbkecaffeaa.fnExactDependencyHolds
open Go.ChangeShapes Go.WideShapes Go.ChangeAt Go.RowKit
set_option linter.unusedVariables false

set_option maxRecDepth 100000 in
theorem lifted (os : Os) (started : os.Started) (H : Type) (enc : TypeId × Value → H) :
    ReturnsInHanded {} Try.checked os 9 .any (Rows.fnExactDependencyHoldsSpec.pre6 enc Try.prog Try.f9 Rows.fnExactDependencyHoldsRow.domain false) (Rows.fnExactDependencyHoldsSpec.post enc Try.prog Try.f9 false true false false) := by
  refine returnsInHanded_of_change (C := Try.checked) own_knob started (by kernel_rfl) Try.func9
    (ChangeSpec.witness6 (enc := enc) (C := Try.checked) false ⟨#[], #[.agg #[.slice none 0 0], .agg #[.string ByteArray.empty, .slice none 0 0, .int .i64 0]], []⟩ 8 (by kernel_rfl) (by kernel_rfl) (by kernel_rfl) (by kernel_rfl)) ?_
  intro W base args ds gs before hval0 hW hcnd _
  have hval : ∀ (j : Nat) t v, Try.f9.params[j]? = some t → args[j]? = some v → Value.okWide Try.prog W .any base t v := hval0
  have hW' := hW
  obtain ⟨p, q, hA0, hV, rfl, hfz, hnd⟩ := hW
  have hA : DataW.TrodAll enc Try.prog W 0 (fun _ => true) true Try.f9.params.toList args.toList ds p := hA0
  rw [Try.params9] at hA hval
  obtain ⟨v0, vs0, d0, ds0, p0, q0, hargs, rfl, rfl, h0, r0⟩ := trodAll_cons hA
  obtain ⟨v1, vs1, d1, ds1, p1, q1, rfl, rfl, rfl, h1, r1⟩ := trodAll_cons r0
  obtain ⟨rfl, rfl, rfl⟩ := trodAll_nil r1
  obtain rfl : args = #[v0, v1] := by cases args; simp_all
  obtain ⟨rfl, rfl⟩ := trodVars_none hV
  have lt0 : ∀ x ∈ p0, x.block < W.heap.size := by obtain ⟨m, hm⟩ := h0; exact DataW.trod_lt m _ _ _ hm
  have w0 : kDb_in W v0 := open_kDb_in (hval 0 41 v0 rfl rfl) h0
  have lt1 : ∀ x ∈ p1, x.block < W.heap.size := by obtain ⟨m, hm⟩ := h1; exact DataW.trod_lt m _ _ _ hm
  have w1 : kDp_in W v1 := open_kDp_in (hval 1 65 v1 rfl rfl) h1
  clear hA0 hval0
  refine (walk_FnExactDependencyHolds v0 v1 W w0 w1).mono fun e W' ⟨he, bel⟩ => ?_
  subst he
  exact ⟨_, rfl, _, _, _, [], _, [], hW', trodAll_mk1 (shut_bool Try.underlying4 _), (trodAll_cons_mk (Below.trod laid_out (by kernel_rfl) (of_decide_eq_true (by kernel_rfl)) h0 bel lt0) (trodAll_cons_mk (Below.trod laid_out (by kernel_rfl) (of_decide_eq_true (by kernel_rfl)) h1 bel lt1) trodAll_mk0)), rfl, bel.frame _, fun h => by cases h⟩

theorem over : Rows.fnExactDependencyHoldsRow.holds Try.pinned (OpenSpec.ofChange Rows.fnExactDependencyHoldsSpec) :=
  OpenClaim.holds_of_wide 9 Try.f9 rfl rfl rfl rfl rfl rfl rfl ⟨rfl, rfl, rfl, rfl, rfl⟩ rfl rfl rfl rfl rfl (by kernel_rfl) Try.func9 (by kernel_rfl)
    (of_decide_eq_true (by kernel_rfl)) (by unfold Func.isWrapper; first | (rw [if_pos (by decide +kernel)]; kernel_rfl) | (rw [if_neg (by decide +kernel)]; exact ⟨rfl, rfl⟩))
    (fun os started H enc _ => lifted os started H enc)

/-- The statement. -/
theorem proved : Rows.FnExactDependencyHoldsSaid := over
#print axioms proved
end Go.Proofs.Ythhbmbkecaffeaa.fnExactDependencyHolds
