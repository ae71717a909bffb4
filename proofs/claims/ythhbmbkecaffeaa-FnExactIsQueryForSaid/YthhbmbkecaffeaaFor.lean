/- Contracts: whether a query is one for a database. -/
import Derived.Test.YthhbmbkecaffeaaLookA
import Derived.Test.YthhbmbkecaffeaaKQ
import Derived.Test.YthhbmbkecaffeaaValidQI
import Derived.Test.YthhbmbkecaffeaaValidQS
import Derived.Test.YthhbmbkecaffeaaQuietB
import Derived.Deep.RegionHeld3
namespace Go.Proofs.Ythhbmbkecaffeaa
open Go.RowKit Go.Sort
set_option linter.unusedVariables false
set_option linter.unusedSimpArgs false
set_option synthInstance.maxSize 2000
set_option synthInstance.maxHeartbeats 400000

/-- Whether atoms are for tables of a database. -/
def forFrom (db : DDb) : List DA → Bool
  | [] => true
  | a :: t => (look db a.1).isSome && (decide ((lookT (look db a.1)).2.1 = (a.2.length : Int)) && forFrom db t)
/-- Whether a query is valid, and for a database. -/
def queryFor (db : DDb) (q : DQ) : Bool := validQ q && forFrom db q.2
theorem for_at {db : DDb} {xs : List DA} {j : Nat} {a : DA} (h : xs[j]? = some a) : forFrom db (xs.drop j) = ((look db a.1).isSome && (decide ((lookT (look db a.1)).2.1 = (a.2.length : Int)) && forFrom db (xs.drop (j + 1)))) := by
  rw [drop_at h]; rfl
theorem for_end {db : DDb} {xs : List DA} {j : Nat} (h : xs.length ≤ j) : forFrom db (xs.drop j) = true := by
  rw [List.drop_eq_nil_of_le h]; rfl
/-- What a new block leaves. -/
theorem cell_box {W : World} {p : Addr} {v : Value} {x : Obj} (h : W.cell? p = some v) : (W.alloc x).cell? p = some v :=
  (((Below.refl W.heap.size W).alloc (Nat.le_refl _) x).cell (cell_lt h)).trans h
theorem cell_setBox {W : World} {p q : Addr} {v u : Value} (h : W.cell? p = some v) (hp : p.block < q.block) : (W.setCell q u).cell? p = some v :=
  ((Below.setCell (Below.refl q.block W) (Nat.le_refl _) u).cell hp).trans h
theorem cell_set3 {W : World} {p : Addr} {v u0 u1 u2 : Value} {g o0 o1 o2 : Nat} (h : W.cell? p = some v) (hp : p.block < g) : (((W.setCell ⟨g, o0, none⟩ u0).setCell ⟨g, o1, none⟩ u1).setCell ⟨g, o2, none⟩ u2).cell? p = some v :=
  cell_setBox (cell_setBox (cell_setBox h hp) hp) hp

set_option maxHeartbeats 2000000 in
theorem queryFor_impl (cs ds : List Value) (db : DDb) (x : DQ) (w : World) (h : rDb.rep w cs db) (h' : rQ.rep w ds x) :
    Calls Try.prog 45 #[.agg cs.toArray, .agg ds.toArray] w fun e w' => e = .returned (.bool (queryFor db x)) ∧ Below w.heap.size w w' := by
  obtain ⟨ub, un, uc, rfl, g1⟩ := rDb_open h
  obtain ⟨qb, qn, qc, rfl, hi2, gq⟩ := rQ_open h'
  have hcq := fun W (hW : Below w.heap.size w W) => validQ_impl _ x W (rQ.mono h' hW)
  have hck := fun name W (hW : Below w.heap.size w W) => lookI_any [.slice ub un uc] db name W (rDb.mono h hW)
  obtain ⟨vq, xs⟩ := x
  simp only at hi2 gq hcq
  have t1 := rS_sl gq
  have hl := t1.len
  have hn := t1.small
  obtain ⟨p, hp⟩ : ∃ p, validQ (vq, xs) = p := ⟨_, rfl⟩
  have HV : Hid (queryFor db (vq, xs) = (p && forFrom db (xs.drop 0))) := Lib.hid (by simp [queryFor, hp])
  simp only [hp] at hcq
  have HCQ := Lib.hid hcq
  have HCK := Lib.hid hck
  clear hcq hck h h' g1 gq hi2 hp
  have hb0 : Below w.heap.size w w := Below.refl _ _
  go_enter Try.func45, Try.ntmps45
  obtain ⟨w1, hw1⟩ : ∃ W, W = w.alloc (.cells #[.slice ub un uc] 49) := ⟨_, rfl⟩
  have z1 : Below w.heap.size w w1 := by rw [hw1]; exact (Below.refl _ _).alloc (Nat.le_refl _) _
  have s1 : w1.heap.size = w.heap.size + 1 := by rw [hw1]; simp
  have hb1 := on hb0 z1
  have b_0 : w1.cell? ⟨w.heap.size, 0, none⟩ = some (.slice ub un uc) := by rw [hw1]; exact box_cell (Below.refl _ _) rfl
  have raw1_b_0 := b_0
  rw [hw1] at raw1_b_0
  obtain ⟨w2, hw2⟩ : ∃ W, W = w1.alloc (.cells #[.int .i64 vq, .slice qb qn qc] 29) := ⟨_, rfl⟩
  have z2 : Below w1.heap.size w1 w2 := by rw [hw2]; exact (Below.refl _ _).alloc (Nat.le_refl _) _
  have s2 : w2.heap.size = w1.heap.size + 1 := by rw [hw2]; simp
  have hb2 := on hb1 z2
  replace b_0 := (z2.cell (p := ⟨w.heap.size, 0, none⟩) (by simp only []; omega)).trans b_0
  have e2 : w1.heap.size = w.heap.size + 1 := by omega
  have q_0 : w2.cell? ⟨w1.heap.size, 0, none⟩ = some (.int .i64 vq) := by rw [hw2]; exact box_cell (Below.refl _ _) rfl
  have q_1 : w2.cell? ⟨w1.heap.size, 1, none⟩ = some (.slice qb qn qc) := by rw [hw2]; exact box_cell (Below.refl _ _) rfl
  rw [e2] at q_0 q_1
  have raw2_b_0 := b_0
  have raw2_q_0 := q_0
  have raw2_q_1 := q_1
  rw [hw2, hw1] at raw2_b_0 raw2_q_0 raw2_q_1
  go_wp2_with fail
  rw [← hw1]
  rw [← hw2]
  clear hw2 hw1
  clear raw1_b_0 raw2_b_0 raw2_q_0 raw2_q_1
  refine (HCQ.out _ hb2).mono ?_
  rintro e w9 ⟨rfl, z9⟩
  have s3 := z9.size
  have hb3 := on hb2 z9
  replace b_0 := (z9.cell (p := ⟨w.heap.size, 0, none⟩) (by simp only []; omega)).trans b_0
  replace q_0 := (z9.cell (p := ⟨w.heap.size + 1, 0, none⟩) (by simp only []; omega)).trans q_0
  replace q_1 := (z9.cell (p := ⟨w.heap.size + 1, 1, none⟩) (by simp only []; omega)).trans q_1
  cases p with
  | false =>
    go_wp2_with fail
    go_wp2_with fail
    go_ret
    exact ⟨ret_bool (by rw [HV.out]; rfl), hb3⟩
  | true =>
    have HV2 : Hid (queryFor db (vq, xs) = forFrom db (xs.drop 0)) := Lib.hid (by rw [HV.out]; simp)
    clear HV
    go_wp2_with fail
    go_loopw [15] (fun k wr => ∃ j : Nat, j ≤ qn ∧ k = .int .i64 j ∧ Hid (queryFor db (vq, xs) = forFrom db (xs.drop j)) ∧ Below w9.heap.size w9 wr) (fun k _ => qn - (intOf k).toNat)
    case atStart => exact ⟨0, Nat.zero_le _, rfl, HV2.out, Below.refl _ _⟩
    case round =>
      obtain ⟨j, hj, rfl, hE, hdr⟩ := hrel
      have hlc := hdr
      have s4 := hdr.size
      have hb4 := on hb3 hdr
      replace b_0 := (hdr.cell (p := ⟨w.heap.size, 0, none⟩) (by simp only []; omega)).trans b_0
      replace q_0 := (hdr.cell (p := ⟨w.heap.size + 1, 0, none⟩) (by simp only []; omega)).trans q_0
      replace q_1 := (hdr.cell (p := ⟨w.heap.size + 1, 1, none⟩) (by simp only []; omega)).trans q_1
      by_cases hlt : j < qn
      · obtain ⟨b1, o1, cs, a, rfl, hx, hr, hc⟩ := t1.at hlt
        obtain ⟨m1, vs⟩ := a
        obtain ⟨vb, vn, vc, rfl, hs, gv⟩ := rA_open hr
        simp only at hs gv
        have hvl := (rI_ints gv).len
        have hA := @lookT_ar db m1
        have HA := Lib.hid (hE.out.trans (for_at hx.out))
        simp only at HA
        have hc1 := fun W (hW : Below w.heap.size w W) => HCK.out m1 W hW
        obtain ⟨s, hs9⟩ : ∃ s, (look db m1).isSome = s := ⟨_, rfl⟩
        obtain ⟨t, ht⟩ : ∃ t, lookT (look db m1) = t := ⟨_, rfl⟩
        rw [hs9, ht, hvl] at HA
        simp only [hs9, ht] at hc1 hA
        obtain ⟨ns, A, r1⟩ := t
        simp only at hA HA hc1
        have HC1 := Lib.hid hc1
        have e_lt : b1 < w.heap.size := cell_lt (hc 0 _ rfl)
        have e_0 : wr.cell? ⟨b1, o1 + j * 2, none⟩ = some (.string m1) := (hb4.cell (p := ⟨b1, o1 + j * 2, none⟩) e_lt).trans (by have h9 := hc 0 _ rfl; rw [← Nat.add_assoc] at h9; exact h9)
        have e_1 : wr.cell? ⟨b1, o1 + j * 2 + 1, none⟩ = some (.slice vb vn vc) := (hb4.cell (p := ⟨b1, o1 + j * 2 + 1, none⟩) e_lt).trans (by have h9 := hc 1 _ rfl; rw [← Nat.add_assoc] at h9; exact h9)
        clear hc hx hr gv hvl hs hs9 ht hc1 hE
        obtain ⟨w5, hw5⟩ : ∃ W, W = wr.alloc (.cells #[.string m1, .slice vb vn vc] 80) := ⟨_, rfl⟩
        have z5 : Below wr.heap.size wr w5 := by rw [hw5]; exact (Below.refl _ _).alloc (Nat.le_refl _) _
        have s5 : w5.heap.size = wr.heap.size + 1 := by rw [hw5]; simp
        have hb5 := on hb4 z5
        have old5_b_0 := b_0
        have old5_q_0 := q_0
        have old5_q_1 := q_1
        have old5_e_0 := e_0
        have old5_e_1 := e_1
        replace b_0 := (z5.cell (p := ⟨w.heap.size, 0, none⟩) (by simp only []; omega)).trans b_0
        replace q_0 := (z5.cell (p := ⟨w.heap.size + 1, 0, none⟩) (by simp only []; omega)).trans q_0
        replace q_1 := (z5.cell (p := ⟨w.heap.size + 1, 1, none⟩) (by simp only []; omega)).trans q_1
        replace hlc := on hlc z5
        replace e_0 := (z5.cell (p := ⟨b1, o1 + j * 2, none⟩) (by simp only []; omega)).trans e_0
        replace e_1 := (z5.cell (p := ⟨b1, o1 + j * 2 + 1, none⟩) (by simp only []; omega)).trans e_1
        have ab_0 : w5.cell? ⟨wr.heap.size, 0, none⟩ = some (.string m1) := by rw [hw5]; exact box_cell (Below.refl _ _) rfl
        have ab_1 : w5.cell? ⟨wr.heap.size, 1, none⟩ = some (.slice vb vn vc) := by rw [hw5]; exact box_cell (Below.refl _ _) rfl
        have raw5_b_0 := b_0
        have raw5_q_0 := q_0
        have raw5_q_1 := q_1
        have raw5_e_0 := e_0
        have raw5_e_1 := e_1
        have raw5_ab_0 := ab_0
        have raw5_ab_1 := ab_1
        rw [hw5] at raw5_b_0 raw5_q_0 raw5_q_1 raw5_e_0 raw5_e_1 raw5_ab_0 raw5_ab_1
        go_wp2_with fail
        rw [← hw5]
        clear hw5
        clear old5_b_0 old5_q_0 old5_q_1 old5_e_0 old5_e_1 raw5_b_0 raw5_q_0 raw5_q_1 raw5_e_0 raw5_e_1 raw5_ab_0 raw5_ab_1
        refine (HC1.out _ hb5).mono ?_
        rintro e w10 ⟨vb', vn', vc', rfl, _, z10⟩
        have s6 := z10.size
        have hb6 := on hb5 z10
        replace b_0 := (z10.cell (p := ⟨w.heap.size, 0, none⟩) (by simp only []; omega)).trans b_0
        replace q_0 := (z10.cell (p := ⟨w.heap.size + 1, 0, none⟩) (by simp only []; omega)).trans q_0
        replace q_1 := (z10.cell (p := ⟨w.heap.size + 1, 1, none⟩) (by simp only []; omega)).trans q_1
        replace hlc := on hlc z10
        replace e_0 := (z10.cell (p := ⟨b1, o1 + j * 2, none⟩) (by simp only []; omega)).trans e_0
        replace e_1 := (z10.cell (p := ⟨b1, o1 + j * 2 + 1, none⟩) (by simp only []; omega)).trans e_1
        replace ab_0 := (z10.cell (p := ⟨wr.heap.size, 0, none⟩) (by simp only []; omega)).trans ab_0
        replace ab_1 := (z10.cell (p := ⟨wr.heap.size, 1, none⟩) (by simp only []; omega)).trans ab_1
        obtain ⟨w7, hw7⟩ : ∃ W, W = w10.alloc (.cells #[.string ns, .int .i64 A, .slice vb' vn' vc'] 91) := ⟨_, rfl⟩
        have z7 : Below w10.heap.size w10 w7 := by rw [hw7]; exact (Below.refl _ _).alloc (Nat.le_refl _) _
        have s7 : w7.heap.size = w10.heap.size + 1 := by rw [hw7]; simp
        have hb7 := on hb6 z7
        have old7_b_0 := b_0
        have old7_q_0 := q_0
        have old7_q_1 := q_1
        have old7_e_0 := e_0
        have old7_e_1 := e_1
        have old7_ab_0 := ab_0
        have old7_ab_1 := ab_1
        replace b_0 := (z7.cell (p := ⟨w.heap.size, 0, none⟩) (by simp only []; omega)).trans b_0
        replace q_0 := (z7.cell (p := ⟨w.heap.size + 1, 0, none⟩) (by simp only []; omega)).trans q_0
        replace q_1 := (z7.cell (p := ⟨w.heap.size + 1, 1, none⟩) (by simp only []; omega)).trans q_1
        replace hlc := on hlc z7
        replace e_0 := (z7.cell (p := ⟨b1, o1 + j * 2, none⟩) (by simp only []; omega)).trans e_0
        replace e_1 := (z7.cell (p := ⟨b1, o1 + j * 2 + 1, none⟩) (by simp only []; omega)).trans e_1
        replace ab_0 := (z7.cell (p := ⟨wr.heap.size, 0, none⟩) (by simp only []; omega)).trans ab_0
        replace ab_1 := (z7.cell (p := ⟨wr.heap.size, 1, none⟩) (by simp only []; omega)).trans ab_1
        have t_0 : w7.cell? ⟨w10.heap.size, 0, none⟩ = some (.string ns) := by rw [hw7]; exact box_cell (Below.refl _ _) rfl
        have t_1 : w7.cell? ⟨w10.heap.size, 1, none⟩ = some (.int .i64 A) := by rw [hw7]; exact box_cell (Below.refl _ _) rfl
        have t_2 : w7.cell? ⟨w10.heap.size, 2, none⟩ = some (.slice vb' vn' vc') := by rw [hw7]; exact box_cell (Below.refl _ _) rfl
        have raw7_b_0 := b_0
        have raw7_q_0 := q_0
        have raw7_q_1 := q_1
        have raw7_e_0 := e_0
        have raw7_e_1 := e_1
        have raw7_ab_0 := ab_0
        have raw7_ab_1 := ab_1
        have raw7_t_0 := t_0
        have raw7_t_1 := t_1
        have raw7_t_2 := t_2
        rw [hw7] at raw7_b_0 raw7_q_0 raw7_q_1 raw7_e_0 raw7_e_1 raw7_ab_0 raw7_ab_1 raw7_t_0 raw7_t_1 raw7_t_2
        cases s with
        | false =>
          go_wp2_with fail
          rw [← hw7]
          clear hw7
          clear old7_b_0 old7_q_0 old7_q_1 old7_e_0 old7_e_1 old7_ab_0 old7_ab_1 raw7_b_0 raw7_q_0 raw7_q_1 raw7_e_0 raw7_e_1 raw7_ab_0 raw7_ab_1 raw7_t_0 raw7_t_1 raw7_t_2
          go_wp2_with fail
          go_ret
          exact ⟨ret_bool (by rw [HA.out]; rfl), hb7⟩
        | true =>
          by_cases hd : A = (vn : Int)
          · have hd2 : (A == (vn : Int)) = true := by rw [beq_iff_eq]; exact hd
            have HE : Hid (queryFor db (vq, xs) = forFrom db (xs.drop (j + 1))) := Lib.hid (by rw [HA.out, decide_eq_true hd]; simp)
            clear hd HA
            go_wp2_with fail
            rw [← hw7]
            clear hw7
            clear old7_b_0 old7_q_0 old7_q_1 old7_e_0 old7_e_1 old7_ab_0 old7_ab_1 raw7_b_0 raw7_q_0 raw7_q_1 raw7_e_0 raw7_e_1 raw7_ab_0 raw7_ab_1 raw7_t_0 raw7_t_1 raw7_t_2
            go_roundw
            case rel => exact ⟨j + 1, by omega, by go_num, HE.out, hlc⟩
            case measure => simp [intOf]; omega
          · have HE : Hid (queryFor db (vq, xs) = false) := Lib.hid (by rw [HA.out, decide_eq_false hd]; simp)
            have hd2 : (A == (vn : Int)) = false := by rw [beq_eq_false_iff_ne]; exact hd
            go_wp2_with fail
            rw [← hw7]
            clear hw7
            clear old7_b_0 old7_q_0 old7_q_1 old7_e_0 old7_e_1 old7_ab_0 old7_ab_1 raw7_b_0 raw7_q_0 raw7_q_1 raw7_e_0 raw7_e_1 raw7_ab_0 raw7_ab_1 raw7_t_0 raw7_t_1 raw7_t_2
            go_wp2_with fail
            go_ret
            exact ⟨ret_bool HE.out.symm, hb7⟩
      · have HE : Hid (queryFor db (vq, xs) = true) := Lib.hid (by rw [hE.out, for_end (by omega)])
        clear hE t1 hl
        go_wp2_with fail
        go_ret
        exact ⟨ret_bool HE.out.symm, hb4⟩

set_option maxHeartbeats 2000000 in
theorem queryFor_spec (cs ds : List Value) (db : DDb) (x : DQ) (w : World) (h : rDb.rep w cs db) (h' : rQ.rep w ds x) :
    Calls Try.prog 44 #[.agg cs.toArray, .agg ds.toArray] w fun e w' => e = .returned (.bool (queryFor db x)) ∧ Below w.heap.size w w' := by
  obtain ⟨ub, un, uc, rfl, g1⟩ := rDb_open h
  obtain ⟨qb, qn, qc, rfl, hi2, gq⟩ := rQ_open h'
  have hcq := fun W (hW : Below w.heap.size w W) => validQ_spec _ x W (rQ.mono h' hW)
  have hck := fun name W (hW : Below w.heap.size w W) => lookS_any [.slice ub un uc] db name W (rDb.mono h hW)
  obtain ⟨vq, xs⟩ := x
  simp only at hi2 gq hcq
  have t1 := rS_sl gq
  have hl := t1.len
  have hn := t1.small
  obtain ⟨p, hp⟩ : ∃ p, validQ (vq, xs) = p := ⟨_, rfl⟩
  have HV : Hid (queryFor db (vq, xs) = (p && forFrom db (xs.drop 0))) := Lib.hid (by simp [queryFor, hp])
  simp only [hp] at hcq
  have HCQ := Lib.hid hcq
  have HCK := Lib.hid hck
  clear hcq hck h h' g1 gq hi2 hp
  have hb0 : Below w.heap.size w w := Below.refl _ _
  go_enter Try.func44, Try.ntmps44
  obtain ⟨w1, hw1⟩ : ∃ W, W = w.alloc (.cells #[.slice ub un uc] 49) := ⟨_, rfl⟩
  have z1 : Below w.heap.size w w1 := by rw [hw1]; exact (Below.refl _ _).alloc (Nat.le_refl _) _
  have s1 : w1.heap.size = w.heap.size + 1 := by rw [hw1]; simp
  have hb1 := on hb0 z1
  have b_0 : w1.cell? ⟨w.heap.size, 0, none⟩ = some (.slice ub un uc) := by rw [hw1]; exact box_cell (Below.refl _ _) rfl
  have raw1_b_0 := b_0
  rw [hw1] at raw1_b_0
  obtain ⟨w2, hw2⟩ : ∃ W, W = w1.alloc (.cells #[.int .i64 vq, .slice qb qn qc] 29) := ⟨_, rfl⟩
  have z2 : Below w1.heap.size w1 w2 := by rw [hw2]; exact (Below.refl _ _).alloc (Nat.le_refl _) _
  have s2 : w2.heap.size = w1.heap.size + 1 := by rw [hw2]; simp
  have hb2 := on hb1 z2
  replace b_0 := (z2.cell (p := ⟨w.heap.size, 0, none⟩) (by simp only []; omega)).trans b_0
  have e2 : w1.heap.size = w.heap.size + 1 := by omega
  have q_0 : w2.cell? ⟨w1.heap.size, 0, none⟩ = some (.int .i64 vq) := by rw [hw2]; exact box_cell (Below.refl _ _) rfl
  have q_1 : w2.cell? ⟨w1.heap.size, 1, none⟩ = some (.slice qb qn qc) := by rw [hw2]; exact box_cell (Below.refl _ _) rfl
  rw [e2] at q_0 q_1
  have raw2_b_0 := b_0
  have raw2_q_0 := q_0
  have raw2_q_1 := q_1
  rw [hw2, hw1] at raw2_b_0 raw2_q_0 raw2_q_1
  go_wp2_with fail
  rw [← hw1]
  rw [← hw2]
  clear hw2 hw1
  clear raw1_b_0 raw2_b_0 raw2_q_0 raw2_q_1
  refine (HCQ.out _ hb2).mono ?_
  rintro e w9 ⟨rfl, z9⟩
  have s3 := z9.size
  have hb3 := on hb2 z9
  replace b_0 := (z9.cell (p := ⟨w.heap.size, 0, none⟩) (by simp only []; omega)).trans b_0
  replace q_0 := (z9.cell (p := ⟨w.heap.size + 1, 0, none⟩) (by simp only []; omega)).trans q_0
  replace q_1 := (z9.cell (p := ⟨w.heap.size + 1, 1, none⟩) (by simp only []; omega)).trans q_1
  cases p with
  | false =>
    go_wp2_with fail
    go_wp2_with fail
    go_ret
    exact ⟨ret_bool (by rw [HV.out]; rfl), hb3⟩
  | true =>
    have HV2 : Hid (queryFor db (vq, xs) = forFrom db (xs.drop 0)) := Lib.hid (by rw [HV.out]; simp)
    clear HV
    go_wp2_with fail
    go_loopw [5] (fun k wr => ∃ j : Nat, j ≤ qn ∧ k = .int .i64 j ∧ Hid (queryFor db (vq, xs) = forFrom db (xs.drop j)) ∧ Below w9.heap.size w9 wr) (fun k _ => qn - (intOf k).toNat)
    case atStart => exact ⟨0, Nat.zero_le _, rfl, HV2.out, Below.refl _ _⟩
    case round =>
      obtain ⟨j, hj, rfl, hE, hdr⟩ := hrel
      have hlc := hdr
      have s4 := hdr.size
      have hb4 := on hb3 hdr
      replace b_0 := (hdr.cell (p := ⟨w.heap.size, 0, none⟩) (by simp only []; omega)).trans b_0
      replace q_0 := (hdr.cell (p := ⟨w.heap.size + 1, 0, none⟩) (by simp only []; omega)).trans q_0
      replace q_1 := (hdr.cell (p := ⟨w.heap.size + 1, 1, none⟩) (by simp only []; omega)).trans q_1
      by_cases hlt : j < qn
      · obtain ⟨b1, o1, cs, a, rfl, hx, hr, hc⟩ := t1.at hlt
        obtain ⟨m1, vs⟩ := a
        obtain ⟨vb, vn, vc, rfl, hs, gv⟩ := rA_open hr
        simp only at hs gv
        have hvl := (rI_ints gv).len
        have hA := @lookT_ar db m1
        have HA := Lib.hid (hE.out.trans (for_at hx.out))
        simp only at HA
        have hc1 := fun W (hW : Below w.heap.size w W) => HCK.out m1 W hW
        obtain ⟨s, hs9⟩ : ∃ s, (look db m1).isSome = s := ⟨_, rfl⟩
        obtain ⟨t, ht⟩ : ∃ t, lookT (look db m1) = t := ⟨_, rfl⟩
        rw [hs9, ht, hvl] at HA
        simp only [hs9, ht] at hc1 hA
        obtain ⟨ns, A, r1⟩ := t
        simp only at hA HA hc1
        have HC1 := Lib.hid hc1
        have e_lt : b1 < w.heap.size := cell_lt (hc 0 _ rfl)
        have e_0 : wr.cell? ⟨b1, o1 + j * 2, none⟩ = some (.string m1) := (hb4.cell (p := ⟨b1, o1 + j * 2, none⟩) e_lt).trans (by have h9 := hc 0 _ rfl; rw [← Nat.add_assoc] at h9; exact h9)
        have e_1 : wr.cell? ⟨b1, o1 + j * 2 + 1, none⟩ = some (.slice vb vn vc) := (hb4.cell (p := ⟨b1, o1 + j * 2 + 1, none⟩) e_lt).trans (by have h9 := hc 1 _ rfl; rw [← Nat.add_assoc] at h9; exact h9)
        clear hc hx hr gv hvl hs hs9 ht hc1 hE
        have hbd := (hb4).drew
        have hsz : wr.drew.heap.size = wr.heap.size := rfl
        have hbn : Below w.heap.size w (wr.alloc (.cells #[.string ⟨#[]⟩, .int .i64 0, .slice none 0 0] 91)).drew := ((hb4).alloc (by omega) _).drew
        have hsn : (wr.alloc (.cells #[.string ⟨#[]⟩, .int .i64 0, .slice none 0 0] 91)).drew.heap.size = wr.heap.size + 1 := by show (wr.alloc _).heap.size = _; simp
        have n_0 : (wr.alloc (.cells #[.string ⟨#[]⟩, .int .i64 0, .slice none 0 0] 91)).drew.cell? ⟨wr.heap.size, 0, none⟩ = some (.string ⟨#[]⟩) := box_cell (cs := #[.string ⟨#[]⟩, .int .i64 0, .slice none 0 0]) (T := 91) (i := 0) (Below.refl _ _).drew rfl
        have n_1 : (wr.alloc (.cells #[.string ⟨#[]⟩, .int .i64 0, .slice none 0 0] 91)).drew.cell? ⟨wr.heap.size, 1, none⟩ = some (.int .i64 0) := box_cell (cs := #[.string ⟨#[]⟩, .int .i64 0, .slice none 0 0]) (T := 91) (i := 1) (Below.refl _ _).drew rfl
        have n_2 : (wr.alloc (.cells #[.string ⟨#[]⟩, .int .i64 0, .slice none 0 0] 91)).drew.cell? ⟨wr.heap.size, 2, none⟩ = some (.slice none 0 0) := box_cell (cs := #[.string ⟨#[]⟩, .int .i64 0, .slice none 0 0]) (T := 91) (i := 2) (Below.refl _ _).drew rfl
        have f_0 : (wr.alloc (.cells #[.string ⟨#[]⟩, .int .i64 0, .slice none 0 0] 91)).drew.frozen? ⟨wr.heap.size, 0, none⟩ = false := box_frozen (cs := #[.string ⟨#[]⟩, .int .i64 0, .slice none 0 0]) (T := 91) (Below.refl _ _).drew
        have f_1 : (wr.alloc (.cells #[.string ⟨#[]⟩, .int .i64 0, .slice none 0 0] 91)).drew.frozen? ⟨wr.heap.size, 1, none⟩ = false := box_frozen (cs := #[.string ⟨#[]⟩, .int .i64 0, .slice none 0 0]) (T := 91) (Below.refl _ _).drew
        have f_2 : (wr.alloc (.cells #[.string ⟨#[]⟩, .int .i64 0, .slice none 0 0] 91)).drew.frozen? ⟨wr.heap.size, 2, none⟩ = false := box_frozen (cs := #[.string ⟨#[]⟩, .int .i64 0, .slice none 0 0]) (T := 91) (Below.refl _ _).drew
        have k_b_0 : (wr.alloc (.cells #[.string ⟨#[]⟩, .int .i64 0, .slice none 0 0] 91)).drew.cell? ⟨w.heap.size, 0, none⟩ = some (.slice ub un uc) := cell_box b_0
        have k_q_1 : (wr.alloc (.cells #[.string ⟨#[]⟩, .int .i64 0, .slice none 0 0] 91)).drew.cell? ⟨w.heap.size + 1, 1, none⟩ = some (.slice (some ⟨b1, o1, none⟩) qn qc) := cell_box q_1
        have k_e_0 : (wr.alloc (.cells #[.string ⟨#[]⟩, .int .i64 0, .slice none 0 0] 91)).drew.cell? ⟨b1, o1 + j * 2, none⟩ = some (.string m1) := cell_box e_0
        have k_e_1 : (wr.alloc (.cells #[.string ⟨#[]⟩, .int .i64 0, .slice none 0 0] 91)).drew.cell? ⟨b1, o1 + j * 2 + 1, none⟩ = some (.slice vb vn vc) := cell_box e_1
        go_wp2_with fail
        go_region_held3 (fun W => W.cell? ⟨w.heap.size, 0, none⟩ = some (.slice ub un uc) ∧ W.cell? ⟨w.heap.size + 1, 1, none⟩ = some (.slice (some ⟨b1, o1, none⟩) qn qc) ∧ W.cell? ⟨b1, o1 + j * 2, none⟩ = some (.string m1) ∧ W.cell? ⟨b1, o1 + j * 2 + 1, none⟩ = some (.slice vb vn vc)) (first | exact ⟨b_0, q_1, e_0, e_1⟩ | assumption | (go_split_ands; (first | exact ⟨cell_box (by assumption), cell_box (by assumption), cell_box (by assumption), cell_box (by assumption)⟩ | exact ⟨cell_set3 (by assumption) (by simp only []; omega), cell_set3 (by assumption) (by simp only []; omega), cell_set3 (by assumption) (by simp only []; omega), cell_set3 (by assumption) (by simp only []; omega)⟩))) (first | (go_at_call 65; (with_reducible refine (HC1.out _ hbd).mono ?_); rintro e w10 ⟨vb', vn', vc', rfl, _, z10⟩; have hS10 := (⟨(z10.cell (p := ⟨w.heap.size, 0, none⟩) (by simp only []; omega)).trans b_0, (z10.cell (p := ⟨w.heap.size + 1, 1, none⟩) (by simp only []; omega)).trans q_1, (z10.cell (p := ⟨b1, o1 + j * 2, none⟩) (by simp only []; omega)).trans e_0, (z10.cell (p := ⟨b1, o1 + j * 2 + 1, none⟩) (by simp only []; omega)).trans e_1⟩ : (fun W => W.cell? ⟨w.heap.size, 0, none⟩ = some (.slice ub un uc) ∧ W.cell? ⟨w.heap.size + 1, 1, none⟩ = some (.slice (some ⟨b1, o1, none⟩) qn qc) ∧ W.cell? ⟨b1, o1 + j * 2, none⟩ = some (.string m1) ∧ W.cell? ⟨b1, o1 + j * 2 + 1, none⟩ = some (.slice vb vn vc)) w10); have hz10 := z10.size) | (go_at_call 65; (with_reducible refine (HC1.out _ hbn).mono ?_); rintro e w10 ⟨vb', vn', vc', rfl, _, z10⟩; have hS10 := (⟨(z10.cell (p := ⟨w.heap.size, 0, none⟩) (by simp only []; omega)).trans k_b_0, (z10.cell (p := ⟨w.heap.size + 1, 1, none⟩) (by simp only []; omega)).trans k_q_1, (z10.cell (p := ⟨b1, o1 + j * 2, none⟩) (by simp only []; omega)).trans k_e_0, (z10.cell (p := ⟨b1, o1 + j * 2 + 1, none⟩) (by simp only []; omega)).trans k_e_1⟩ : (fun W => W.cell? ⟨w.heap.size, 0, none⟩ = some (.slice ub un uc) ∧ W.cell? ⟨w.heap.size + 1, 1, none⟩ = some (.slice (some ⟨b1, o1, none⟩) qn qc) ∧ W.cell? ⟨b1, o1 + j * 2, none⟩ = some (.string m1) ∧ W.cell? ⟨b1, o1 + j * 2 + 1, none⟩ = some (.slice vb vn vc)) w10); have hz10 := z10.size; replace n_0 := (z10.cell (p := ⟨wr.heap.size, 0, none⟩) (by simp only []; omega)).trans n_0; replace n_1 := (z10.cell (p := ⟨wr.heap.size, 1, none⟩) (by simp only []; omega)).trans n_1; replace n_2 := (z10.cell (p := ⟨wr.heap.size, 2, none⟩) (by simp only []; omega)).trans n_2; replace f_0 := (z10.frozen (p := ⟨wr.heap.size, 0, none⟩) (by simp only []; omega)).trans f_0; replace f_1 := (z10.frozen (p := ⟨wr.heap.size, 1, none⟩) (by simp only []; omega)).trans f_1; replace f_2 := (z10.frozen (p := ⟨wr.heap.size, 2, none⟩) (by simp only []; omega)).trans f_2))
        · obtain ⟨Wf, hW⟩ : ∃ W, W = w10.alloc (.cells #[.string ns, .int .i64 A, .slice vb' vn' vc'] 91) := ⟨_, rfl⟩
          have hbf : Below w.heap.size w Wf := by rw [hW]; exact (on hbd z10).alloc (by omega) _
          have hlf : Below w9.heap.size w9 Wf := by rw [hW]; exact (on hlc.drew z10).alloc (by have h9 := hlc.size; omega) _
          have t_1 : Wf.cell? ⟨w10.heap.size, 1, none⟩ = some (.int .i64 A) := by rw [hW]; exact box_cell (i := 1) (Below.refl _ _) rfl
          have x_1 : Wf.cell? ⟨w.heap.size + 1, 1, none⟩ = some (.slice (some ⟨b1, o1, none⟩) qn qc) := by rw [hW]; exact cell_box hS10.2.1
          have x_2 : Wf.cell? ⟨b1, o1 + j * 2 + 1, none⟩ = some (.slice vb vn vc) := by rw [hW]; exact cell_box hS10.2.2.2
          rw [← hW]
          clear hS10 n_0 n_1 n_2 f_0 f_1 f_2 k_b_0 k_q_1 k_e_0 k_e_1 hW z10 hbn hbd hz10
          cases s with
          | false =>
            go_wp2_with fail
            go_quiet (fail)
            go_wp2_with fail
            go_ret
            exact ⟨ret_bool (by rw [HA.out]; rfl), onD hbf ⟨_, rfl⟩⟩
          | true =>
            by_cases hd : A = (vn : Int)
            · have hd2 : (A == (vn : Int)) = true := by rw [beq_iff_eq]; exact hd
              have HE : Hid (queryFor db (vq, xs) = forFrom db (xs.drop (j + 1))) := Lib.hid (by rw [HA.out, decide_eq_true hd]; simp)
              clear hd HA
              go_wp2_with fail
              go_quiet (fail)
              go_wp2_with fail
              go_roundw
              case rel => exact ⟨j + 1, by omega, by go_num, HE.out, onD hlf ⟨_, rfl⟩⟩
              case measure => simp [intOf]; omega
            · have HE : Hid (queryFor db (vq, xs) = false) := Lib.hid (by rw [HA.out, decide_eq_false hd]; simp)
              have hd2 : (A == (vn : Int)) = false := by rw [beq_eq_false_iff_ne]; exact hd
              go_wp2_with fail
              go_quiet (fail)
              go_wp2_with fail
              go_ret
              exact ⟨ret_bool HE.out.symm, onD hbf ⟨_, rfl⟩⟩
        · obtain ⟨Wf, hW⟩ : ∃ W, W = ((w10.setCell ⟨wr.heap.size, 0, none⟩ (.string ns)).setCell ⟨wr.heap.size, 1, none⟩ (.int .i64 A)).setCell ⟨wr.heap.size, 2, none⟩ (.slice vb' vn' vc') := ⟨_, rfl⟩
          have hbf : Below w.heap.size w Wf := by
            rw [hW]
            exact (((on hbn z10).setCell (by simp only []; omega) _).setCell (by simp only []; omega) _).setCell (by simp only []; omega) _
          have hlf : Below w9.heap.size w9 Wf := by
            have h9 := hlc.size
            rw [hW]
            exact (((on ((hlc.alloc (by omega) _).drew) z10).setCell (by simp only []; omega) _).setCell (by simp only []; omega) _).setCell (by simp only []; omega) _
          have t_1 : Wf.cell? ⟨wr.heap.size, 1, none⟩ = some (.int .i64 A) := by rw [hW]; simp [n_1, go_sem]
          have x_1 : Wf.cell? ⟨w.heap.size + 1, 1, none⟩ = some (.slice (some ⟨b1, o1, none⟩) qn qc) := by rw [hW]; exact cell_set3 hS10.2.1 (by simp only []; omega)
          have x_2 : Wf.cell? ⟨b1, o1 + j * 2 + 1, none⟩ = some (.slice vb vn vc) := by rw [hW]; exact cell_set3 hS10.2.2.2 (by simp only []; omega)
          rw [← hW]
          clear hS10 n_0 n_1 n_2 f_0 f_1 f_2 k_b_0 k_q_1 k_e_0 k_e_1 hW z10 hbn hbd hz10
          cases s with
          | false =>
            go_wp2_with fail
            go_quiet (fail)
            go_wp2_with fail
            go_ret
            exact ⟨ret_bool (by rw [HA.out]; rfl), onD hbf ⟨_, rfl⟩⟩
          | true =>
            by_cases hd : A = (vn : Int)
            · have hd2 : (A == (vn : Int)) = true := by rw [beq_iff_eq]; exact hd
              have HE : Hid (queryFor db (vq, xs) = forFrom db (xs.drop (j + 1))) := Lib.hid (by rw [HA.out, decide_eq_true hd]; simp)
              clear hd HA
              go_wp2_with fail
              go_quiet (fail)
              go_wp2_with fail
              go_roundw
              case rel => exact ⟨j + 1, by omega, by go_num, HE.out, onD hlf ⟨_, rfl⟩⟩
              case measure => simp [intOf]; omega
            · have HE : Hid (queryFor db (vq, xs) = false) := Lib.hid (by rw [HA.out, decide_eq_false hd]; simp)
              have hd2 : (A == (vn : Int)) = false := by rw [beq_eq_false_iff_ne]; exact hd
              go_wp2_with fail
              go_quiet (fail)
              go_wp2_with fail
              go_ret
              exact ⟨ret_bool HE.out.symm, onD hbf ⟨_, rfl⟩⟩
      · have HE : Hid (queryFor db (vq, xs) = true) := Lib.hid (by rw [hE.out, for_end (by omega)])
        clear hE t1 hl
        go_wp2_with fail
        go_ret
        exact ⟨ret_bool HE.out.symm, hb4⟩

end Go.Proofs.Ythhbmbkecaffeaa
