/- Texts joined for one claim: For, Conn2, EvalM, EvalI, EvalS. -/
import Derived.Test.YtkipgbgkhffkkaaGreatQb398de00b4
import Derived.Deep.RegionHeld3

/- Contracts: whether a query is one for a database. -/
namespace Go.Proofs.YtkipgbgkhffkkaaGreat
open Go.RowKit Go.Sort
set_option linter.unusedVariables false
set_option linter.unusedSimpArgs false
set_option synthInstance.maxSize 2000
set_option synthInstance.maxHeartbeats 400000

/-- Whether atoms are for tables of a database. -/
def forFrom (db : DDb) : List DA → Bool
  | [] => true
  | a :: t => (look db a.1).isSome && (decide ((lookT (look db a.1)).2.1 = (a.2.length : Int)) && forFrom db t)
/-- Whether a query is valid, and for a database. -/
def queryFor (db : DDb) (q : DQ) : Bool := validQ q && forFrom db q.2
theorem for_at {db : DDb} {xs : List DA} {j : Nat} {a : DA} (h : xs[j]? = some a) : forFrom db (xs.drop j) = ((look db a.1).isSome && (decide ((lookT (look db a.1)).2.1 = (a.2.length : Int)) && forFrom db (xs.drop (j + 1)))) := by
  rw [drop_at h]; rfl
theorem for_end {db : DDb} {xs : List DA} {j : Nat} (h : xs.length ≤ j) : forFrom db (xs.drop j) = true := by
  rw [List.drop_eq_nil_of_le h]; rfl
/-- What a new block leaves. -/
theorem cell_box {W : World} {p : Addr} {v : Value} {x : Obj} (h : W.cell? p = some v) : (W.alloc x).cell? p = some v :=
  (((Below.refl W.heap.size W).alloc (Nat.le_refl _) x).cell (cell_lt h)).trans h
theorem cell_setBox {W : World} {p q : Addr} {v u : Value} (h : W.cell? p = some v) (hp : p.block < q.block) : (W.setCell q u).cell? p = some v :=
  ((Below.setCell (Below.refl q.block W) (Nat.le_refl _) u).cell hp).trans h
theorem cell_set3 {W : World} {p : Addr} {v u0 u1 u2 : Value} {g o0 o1 o2 : Nat} (h : W.cell? p = some v) (hp : p.block < g) : (((W.setCell ⟨g, o0, none⟩ u0).setCell ⟨g, o1, none⟩ u1).setCell ⟨g, o2, none⟩ u2).cell? p = some v :=
  cell_setBox (cell_setBox (cell_setBox h hp) hp) hp

set_option maxHeartbeats 2000000 in
theorem queryFor_impl (cs ds : List Value) (db : DDb) (x : DQ) (w : World) (h : rDb.rep w cs db) (h' : rQ.rep w ds x) :
    Calls Tryz.prog 46 #[.agg cs.toArray, .agg ds.toArray] w fun e w' => e = .returned (.bool (queryFor db x)) ∧ Below w.heap.size w w' := by
  obtain ⟨ub, un, uc, rfl, g1⟩ := rDb_open h
  obtain ⟨qb, qn, qc, rfl, hi2, gq⟩ := rQ_open h'
  have hcq := fun W (hW : Below w.heap.size w W) => validQ_impl _ x W (rQ.mono h' hW)
  have hck := fun name W (hW : Below w.heap.size w W) => lookI_any [.slice ub un uc] db name W (rDb.mono h hW)
  obtain ⟨vq, xs⟩ := x
  simp only at hi2 gq hcq
  have t1 := rS_sl gq
  have hl := t1.len
  have hn := t1.small
  obtain ⟨p, hp⟩ : ∃ p, validQ (vq, xs) = p := ⟨_, rfl⟩
  have HV : Hid (queryFor db (vq, xs) = (p && forFrom db (xs.drop 0))) := Lib.hid (by simp [queryFor, hp])
  simp only [hp] at hcq
  have HCQ := Lib.hid hcq
  have HCK := Lib.hid hck
  clear hcq hck h h' g1 gq hi2 hp
  have hb0 : Below w.heap.size w w := Below.refl _ _
  go_enter Tryz.func46, Tryz.ntmps46
  obtain ⟨w1, hw1⟩ : ∃ W, W = w.alloc (.cells #[.slice ub un uc] 34) := ⟨_, rfl⟩
  have z1 : Below w.heap.size w w1 := by rw [hw1]; exact (Below.refl _ _).alloc (Nat.le_refl _) _
  have s1 : w1.heap.size = w.heap.size + 1 := by rw [hw1]; simp
  have hb1 := on hb0 z1
  have b_0 : w1.cell? ⟨w.heap.size, 0, none⟩ = some (.slice ub un uc) := by rw [hw1]; exact box_cell (Below.refl _ _) rfl
  have raw1_b_0 := b_0
  rw [hw1] at raw1_b_0
  obtain ⟨w2, hw2⟩ : ∃ W, W = w1.alloc (.cells #[.int .i64 vq, .slice qb qn qc] 38) := ⟨_, rfl⟩
  have z2 : Below w1.heap.size w1 w2 := by rw [hw2]; exact (Below.refl _ _).alloc (Nat.le_refl _) _
  have s2 : w2.heap.size = w1.heap.size + 1 := by rw [hw2]; simp
  have hb2 := on hb1 z2
  replace b_0 := (z2.cell (p := ⟨w.heap.size, 0, none⟩) (by simp only []; omega)).trans b_0
  have e2 : w1.heap.size = w.heap.size + 1 := by omega
  have q_0 : w2.cell? ⟨w1.heap.size, 0, none⟩ = some (.int .i64 vq) := by rw [hw2]; exact box_cell (Below.refl _ _) rfl
  have q_1 : w2.cell? ⟨w1.heap.size, 1, none⟩ = some (.slice qb qn qc) := by rw [hw2]; exact box_cell (Below.refl _ _) rfl
  rw [e2] at q_0 q_1
  have raw2_b_0 := b_0
  have raw2_q_0 := q_0
  have raw2_q_1 := q_1
  rw [hw2, hw1] at raw2_b_0 raw2_q_0 raw2_q_1
  go_wp2_with fail
  rw [← hw1]
  rw [← hw2]
  clear hw2 hw1
  clear raw1_b_0 raw2_b_0 raw2_q_0 raw2_q_1
  refine (HCQ.out _ hb2).mono ?_
  rintro e w9 ⟨rfl, z9⟩
  have s3 := z9.size
  have hb3 := on hb2 z9
  replace b_0 := (z9.cell (p := ⟨w.heap.size, 0, none⟩) (by simp only []; omega)).trans b_0
  replace q_0 := (z9.cell (p := ⟨w.heap.size + 1, 0, none⟩) (by simp only []; omega)).trans q_0
  replace q_1 := (z9.cell (p := ⟨w.heap.size + 1, 1, none⟩) (by simp only []; omega)).trans q_1
  cases p with
  | false =>
    go_wp2_with fail
    go_wp2_with fail
    go_ret
    exact ⟨ret_bool (by rw [HV.out]; rfl), hb3⟩
  | true =>
    have HV2 : Hid (queryFor db (vq, xs) = forFrom db (xs.drop 0)) := Lib.hid (by rw [HV.out]; simp)
    clear HV
    go_wp2_with fail
    go_loopw [15] (fun k wr => ∃ j : Nat, j ≤ qn ∧ k = .int .i64 j ∧ Hid (queryFor db (vq, xs) = forFrom db (xs.drop j)) ∧ Below w9.heap.size w9 wr) (fun k _ => qn - (intOf k).toNat)
    case atStart => exact ⟨0, Nat.zero_le _, rfl, HV2.out, Below.refl _ _⟩
    case round =>
      obtain ⟨j, hj, rfl, hE, hdr⟩ := hrel
      have hlc := hdr
      have s4 := hdr.size
      have hb4 := on hb3 hdr
      replace b_0 := (hdr.cell (p := ⟨w.heap.size, 0, none⟩) (by simp only []; omega)).trans b_0
      replace q_0 := (hdr.cell (p := ⟨w.heap.size + 1, 0, none⟩) (by simp only []; omega)).trans q_0
      replace q_1 := (hdr.cell (p := ⟨w.heap.size + 1, 1, none⟩) (by simp only []; omega)).trans q_1
      by_cases hlt : j < qn
      · obtain ⟨b1, o1, cs, a, rfl, hx, hr, hc⟩ := t1.at hlt
        obtain ⟨m1, vs⟩ := a
        obtain ⟨vb, vn, vc, rfl, hs, gv⟩ := rA_open hr
        simp only at hs gv
        have hvl := (rI_ints gv).len
        have hA := @lookT_ar db m1
        have HA := Lib.hid (hE.out.trans (for_at hx.out))
        simp only at HA
        have hc1 := fun W (hW : Below w.heap.size w W) => HCK.out m1 W hW
        obtain ⟨s, hs9⟩ : ∃ s, (look db m1).isSome = s := ⟨_, rfl⟩
        obtain ⟨t, ht⟩ : ∃ t, lookT (look db m1) = t := ⟨_, rfl⟩
        rw [hs9, ht, hvl] at HA
        simp only [hs9, ht] at hc1 hA
        obtain ⟨ns, A, r1⟩ := t
        simp only at hA HA hc1
        have HC1 := Lib.hid hc1
        have e_lt : b1 < w.heap.size := cell_lt (hc 0 _ rfl)
        have e_0 : wr.cell? ⟨b1, o1 + j * 2, none⟩ = some (.string m1) := (hb4.cell (p := ⟨b1, o1 + j * 2, none⟩) e_lt).trans (by have h9 := hc 0 _ rfl; rw [← Nat.add_assoc] at h9; exact h9)
        have e_1 : wr.cell? ⟨b1, o1 + j * 2 + 1, none⟩ = some (.slice vb vn vc) := (hb4.cell (p := ⟨b1, o1 + j * 2 + 1, none⟩) e_lt).trans (by have h9 := hc 1 _ rfl; rw [← Nat.add_assoc] at h9; exact h9)
        clear hc hx hr gv hvl hs hs9 ht hc1 hE
        obtain ⟨w5, hw5⟩ : ∃ W, W = wr.alloc (.cells #[.string m1, .slice vb vn vc] 69) := ⟨_, rfl⟩
        have z5 : Below wr.heap.size wr w5 := by rw [hw5]; exact (Below.refl _ _).alloc (Nat.le_refl _) _
        have s5 : w5.heap.size = wr.heap.size + 1 := by rw [hw5]; simp
        have hb5 := on hb4 z5
        have old5_b_0 := b_0
        have old5_q_0 := q_0
        have old5_q_1 := q_1
        have old5_e_0 := e_0
        have old5_e_1 := e_1
        replace b_0 := (z5.cell (p := ⟨w.heap.size, 0, none⟩) (by simp only []; omega)).trans b_0
        replace q_0 := (z5.cell (p := ⟨w.heap.size + 1, 0, none⟩) (by simp only []; omega)).trans q_0
        replace q_1 := (z5.cell (p := ⟨w.heap.size + 1, 1, none⟩) (by simp only []; omega)).trans q_1
        replace hlc := on hlc z5
        replace e_0 := (z5.cell (p := ⟨b1, o1 + j * 2, none⟩) (by simp only []; omega)).trans e_0
        replace e_1 := (z5.cell (p := ⟨b1, o1 + j * 2 + 1, none⟩) (by simp only []; omega)).trans e_1
        have ab_0 : w5.cell? ⟨wr.heap.size, 0, none⟩ = some (.string m1) := by rw [hw5]; exact box_cell (Below.refl _ _) rfl
        have ab_1 : w5.cell? ⟨wr.heap.size, 1, none⟩ = some (.slice vb vn vc) := by rw [hw5]; exact box_cell (Below.refl _ _) rfl
        have raw5_b_0 := b_0
        have raw5_q_0 := q_0
        have raw5_q_1 := q_1
        have raw5_e_0 := e_0
        have raw5_e_1 := e_1
        have raw5_ab_0 := ab_0
        have raw5_ab_1 := ab_1
        rw [hw5] at raw5_b_0 raw5_q_0 raw5_q_1 raw5_e_0 raw5_e_1 raw5_ab_0 raw5_ab_1
        go_wp2_with fail
        rw [← hw5]
        clear hw5
        clear old5_b_0 old5_q_0 old5_q_1 old5_e_0 old5_e_1 raw5_b_0 raw5_q_0 raw5_q_1 raw5_e_0 raw5_e_1 raw5_ab_0 raw5_ab_1
        refine (HC1.out _ hb5).mono ?_
        rintro e w10 ⟨vb', vn', vc', rfl, _, z10⟩
        have s6 := z10.size
        have hb6 := on hb5 z10
        replace b_0 := (z10.cell (p := ⟨w.heap.size, 0, none⟩) (by simp only []; omega)).trans b_0
        replace q_0 := (z10.cell (p := ⟨w.heap.size + 1, 0, none⟩) (by simp only []; omega)).trans q_0
        replace q_1 := (z10.cell (p := ⟨w.heap.size + 1, 1, none⟩) (by simp only []; omega)).trans q_1
        replace hlc := on hlc z10
        replace e_0 := (z10.cell (p := ⟨b1, o1 + j * 2, none⟩) (by simp only []; omega)).trans e_0
        replace e_1 := (z10.cell (p := ⟨b1, o1 + j * 2 + 1, none⟩) (by simp only []; omega)).trans e_1
        replace ab_0 := (z10.cell (p := ⟨wr.heap.size, 0, none⟩) (by simp only []; omega)).trans ab_0
        replace ab_1 := (z10.cell (p := ⟨wr.heap.size, 1, none⟩) (by simp only []; omega)).trans ab_1
        obtain ⟨w7, hw7⟩ : ∃ W, W = w10.alloc (.cells #[.string ns, .int .i64 A, .slice vb' vn' vc'] 65) := ⟨_, rfl⟩
        have z7 : Below w10.heap.size w10 w7 := by rw [hw7]; exact (Below.refl _ _).alloc (Nat.le_refl _) _
        have s7 : w7.heap.size = w10.heap.size + 1 := by rw [hw7]; simp
        have hb7 := on hb6 z7
        have old7_b_0 := b_0
        have old7_q_0 := q_0
        have old7_q_1 := q_1
        have old7_e_0 := e_0
        have old7_e_1 := e_1
        have old7_ab_0 := ab_0
        have old7_ab_1 := ab_1
        replace b_0 := (z7.cell (p := ⟨w.heap.size, 0, none⟩) (by simp only []; omega)).trans b_0
        replace q_0 := (z7.cell (p := ⟨w.heap.size + 1, 0, none⟩) (by simp only []; omega)).trans q_0
        replace q_1 := (z7.cell (p := ⟨w.heap.size + 1, 1, none⟩) (by simp only []; omega)).trans q_1
        replace hlc := on hlc z7
        replace e_0 := (z7.cell (p := ⟨b1, o1 + j * 2, none⟩) (by simp only []; omega)).trans e_0
        replace e_1 := (z7.cell (p := ⟨b1, o1 + j * 2 + 1, none⟩) (by simp only []; omega)).trans e_1
        replace ab_0 := (z7.cell (p := ⟨wr.heap.size, 0, none⟩) (by simp only []; omega)).trans ab_0
        replace ab_1 := (z7.cell (p := ⟨wr.heap.size, 1, none⟩) (by simp only []; omega)).trans ab_1
        have t_0 : w7.cell? ⟨w10.heap.size, 0, none⟩ = some (.string ns) := by rw [hw7]; exact box_cell (Below.refl _ _) rfl
        have t_1 : w7.cell? ⟨w10.heap.size, 1, none⟩ = some (.int .i64 A) := by rw [hw7]; exact box_cell (Below.refl _ _) rfl
        have t_2 : w7.cell? ⟨w10.heap.size, 2, none⟩ = some (.slice vb' vn' vc') := by rw [hw7]; exact box_cell (Below.refl _ _) rfl
        have raw7_b_0 := b_0
        have raw7_q_0 := q_0
        have raw7_q_1 := q_1
        have raw7_e_0 := e_0
        have raw7_e_1 := e_1
        have raw7_ab_0 := ab_0
        have raw7_ab_1 := ab_1
        have raw7_t_0 := t_0
        have raw7_t_1 := t_1
        have raw7_t_2 := t_2
        rw [hw7] at raw7_b_0 raw7_q_0 raw7_q_1 raw7_e_0 raw7_e_1 raw7_ab_0 raw7_ab_1 raw7_t_0 raw7_t_1 raw7_t_2
        cases s with
        | false =>
          go_wp2_with fail
          rw [← hw7]
          clear hw7
          clear old7_b_0 old7_q_0 old7_q_1 old7_e_0 old7_e_1 old7_ab_0 old7_ab_1 raw7_b_0 raw7_q_0 raw7_q_1 raw7_e_0 raw7_e_1 raw7_ab_0 raw7_ab_1 raw7_t_0 raw7_t_1 raw7_t_2
          go_wp2_with fail
          go_ret
          exact ⟨ret_bool (by rw [HA.out]; rfl), hb7⟩
        | true =>
          by_cases hd : A = (vn : Int)
          · have hd2 : (A == (vn : Int)) = true := by rw [beq_iff_eq]; exact hd
            have HE : Hid (queryFor db (vq, xs) = forFrom db (xs.drop (j + 1))) := Lib.hid (by rw [HA.out, decide_eq_true hd]; simp)
            clear hd HA
            go_wp2_with fail
            rw [← hw7]
            clear hw7
            clear old7_b_0 old7_q_0 old7_q_1 old7_e_0 old7_e_1 old7_ab_0 old7_ab_1 raw7_b_0 raw7_q_0 raw7_q_1 raw7_e_0 raw7_e_1 raw7_ab_0 raw7_ab_1 raw7_t_0 raw7_t_1 raw7_t_2
            go_roundw
            case rel => exact ⟨j + 1, by omega, by go_num, HE.out, hlc⟩
            case measure => simp [intOf]; omega
          · have HE : Hid (queryFor db (vq, xs) = false) := Lib.hid (by rw [HA.out, decide_eq_false hd]; simp)
            have hd2 : (A == (vn : Int)) = false := by rw [beq_eq_false_iff_ne]; exact hd
            go_wp2_with fail
            rw [← hw7]
            clear hw7
            clear old7_b_0 old7_q_0 old7_q_1 old7_e_0 old7_e_1 old7_ab_0 old7_ab_1 raw7_b_0 raw7_q_0 raw7_q_1 raw7_e_0 raw7_e_1 raw7_ab_0 raw7_ab_1 raw7_t_0 raw7_t_1 raw7_t_2
            go_wp2_with fail
            go_ret
            exact ⟨ret_bool HE.out.symm, hb7⟩
      · have HE : Hid (queryFor db (vq, xs) = true) := Lib.hid (by rw [hE.out, for_end (by omega)])
        clear hE t1 hl
        go_wp2_with fail
        go_ret
        exact ⟨ret_bool HE.out.symm, hb4⟩

set_option maxHeartbeats 2000000 in
theorem queryFor_spec (cs ds : List Value) (db : DDb) (x : DQ) (w : World) (h : rDb.rep w cs db) (h' : rQ.rep w ds x) :
    Calls Tryz.prog 42 #[.agg cs.toArray, .agg ds.toArray] w fun e w' => e = .returned (.bool (queryFor db x)) ∧ Below w.heap.size w w' := by
  obtain ⟨ub, un, uc, rfl, g1⟩ := rDb_open h
  obtain ⟨qb, qn, qc, rfl, hi2, gq⟩ := rQ_open h'
  have hcq := fun W (hW : Below w.heap.size w W) => validQ_spec _ x W (rQ.mono h' hW)
  have hck := fun name W (hW : Below w.heap.size w W) => lookS_any [.slice ub un uc] db name W (rDb.mono h hW)
  obtain ⟨vq, xs⟩ := x
  simp only at hi2 gq hcq
  have t1 := rS_sl gq
  have hl := t1.len
  have hn := t1.small
  obtain ⟨p, hp⟩ : ∃ p, validQ (vq, xs) = p := ⟨_, rfl⟩
  have HV : Hid (queryFor db (vq, xs) = (p && forFrom db (xs.drop 0))) := Lib.hid (by simp [queryFor, hp])
  simp only [hp] at hcq
  have HCQ := Lib.hid hcq
  have HCK := Lib.hid hck
  clear hcq hck h h' g1 gq hi2 hp
  have hb0 : Below w.heap.size w w := Below.refl _ _
  go_enter Tryz.func42, Tryz.ntmps42
  obtain ⟨w1, hw1⟩ : ∃ W, W = w.alloc (.cells #[.slice ub un uc] 34) := ⟨_, rfl⟩
  have z1 : Below w.heap.size w w1 := by rw [hw1]; exact (Below.refl _ _).alloc (Nat.le_refl _) _
  have s1 : w1.heap.size = w.heap.size + 1 := by rw [hw1]; simp
  have hb1 := on hb0 z1
  have b_0 : w1.cell? ⟨w.heap.size, 0, none⟩ = some (.slice ub un uc) := by rw [hw1]; exact box_cell (Below.refl _ _) rfl
  have raw1_b_0 := b_0
  rw [hw1] at raw1_b_0
  obtain ⟨w2, hw2⟩ : ∃ W, W = w1.alloc (.cells #[.int .i64 vq, .slice qb qn qc] 38) := ⟨_, rfl⟩
  have z2 : Below w1.heap.size w1 w2 := by rw [hw2]; exact (Below.refl _ _).alloc (Nat.le_refl _) _
  have s2 : w2.heap.size = w1.heap.size + 1 := by rw [hw2]; simp
  have hb2 := on hb1 z2
  replace b_0 := (z2.cell (p := ⟨w.heap.size, 0, none⟩) (by simp only []; omega)).trans b_0
  have e2 : w1.heap.size = w.heap.size + 1 := by omega
  have q_0 : w2.cell? ⟨w1.heap.size, 0, none⟩ = some (.int .i64 vq) := by rw [hw2]; exact box_cell (Below.refl _ _) rfl
  have q_1 : w2.cell? ⟨w1.heap.size, 1, none⟩ = some (.slice qb qn qc) := by rw [hw2]; exact box_cell (Below.refl _ _) rfl
  rw [e2] at q_0 q_1
  have raw2_b_0 := b_0
  have raw2_q_0 := q_0
  have raw2_q_1 := q_1
  rw [hw2, hw1] at raw2_b_0 raw2_q_0 raw2_q_1
  go_wp2_with fail
  rw [← hw1]
  rw [← hw2]
  clear hw2 hw1
  clear raw1_b_0 raw2_b_0 raw2_q_0 raw2_q_1
  refine (HCQ.out _ hb2).mono ?_
  rintro e w9 ⟨rfl, z9⟩
  have s3 := z9.size
  have hb3 := on hb2 z9
  replace b_0 := (z9.cell (p := ⟨w.heap.size, 0, none⟩) (by simp only []; omega)).trans b_0
  replace q_0 := (z9.cell (p := ⟨w.heap.size + 1, 0, none⟩) (by simp only []; omega)).trans q_0
  replace q_1 := (z9.cell (p := ⟨w.heap.size + 1, 1, none⟩) (by simp only []; omega)).trans q_1
  cases p with
  | false =>
    go_wp2_with fail
    go_wp2_with fail
    go_ret
    exact ⟨ret_bool (by rw [HV.out]; rfl), hb3⟩
  | true =>
    have HV2 : Hid (queryFor db (vq, xs) = forFrom db (xs.drop 0)) := Lib.hid (by rw [HV.out]; simp)
    clear HV
    go_wp2_with fail
    go_loopw [5] (fun k wr => ∃ j : Nat, j ≤ qn ∧ k = .int .i64 j ∧ Hid (queryFor db (vq, xs) = forFrom db (xs.drop j)) ∧ Below w9.heap.size w9 wr) (fun k _ => qn - (intOf k).toNat)
    case atStart => exact ⟨0, Nat.zero_le _, rfl, HV2.out, Below.refl _ _⟩
    case round =>
      obtain ⟨j, hj, rfl, hE, hdr⟩ := hrel
      have hlc := hdr
      have s4 := hdr.size
      have hb4 := on hb3 hdr
      replace b_0 := (hdr.cell (p := ⟨w.heap.size, 0, none⟩) (by simp only []; omega)).trans b_0
      replace q_0 := (hdr.cell (p := ⟨w.heap.size + 1, 0, none⟩) (by simp only []; omega)).trans q_0
      replace q_1 := (hdr.cell (p := ⟨w.heap.size + 1, 1, none⟩) (by simp only []; omega)).trans q_1
      by_cases hlt : j < qn
      · obtain ⟨b1, o1, cs, a, rfl, hx, hr, hc⟩ := t1.at hlt
        obtain ⟨m1, vs⟩ := a
        obtain ⟨vb, vn, vc, rfl, hs, gv⟩ := rA_open hr
        simp only at hs gv
        have hvl := (rI_ints gv).len
        have hA := @lookT_ar db m1
        have HA := Lib.hid (hE.out.trans (for_at hx.out))
        simp only at HA
        have hc1 := fun W (hW : Below w.heap.size w W) => HCK.out m1 W hW
        obtain ⟨s, hs9⟩ : ∃ s, (look db m1).isSome = s := ⟨_, rfl⟩
        obtain ⟨t, ht⟩ : ∃ t, lookT (look db m1) = t := ⟨_, rfl⟩
        rw [hs9, ht, hvl] at HA
        simp only [hs9, ht] at hc1 hA
        obtain ⟨ns, A, r1⟩ := t
        simp only at hA HA hc1
        have HC1 := Lib.hid hc1
        have e_lt : b1 < w.heap.size := cell_lt (hc 0 _ rfl)
        have e_0 : wr.cell? ⟨b1, o1 + j * 2, none⟩ = some (.string m1) := (hb4.cell (p := ⟨b1, o1 + j * 2, none⟩) e_lt).trans (by have h9 := hc 0 _ rfl; rw [← Nat.add_assoc] at h9; exact h9)
        have e_1 : wr.cell? ⟨b1, o1 + j * 2 + 1, none⟩ = some (.slice vb vn vc) := (hb4.cell (p := ⟨b1, o1 + j * 2 + 1, none⟩) e_lt).trans (by have h9 := hc 1 _ rfl; rw [← Nat.add_assoc] at h9; exact h9)
        clear hc hx hr gv hvl hs hs9 ht hc1 hE
        have hbd := (hb4).drew
        have hsz : wr.drew.heap.size = wr.heap.size := rfl
        have hbn : Below w.heap.size w (wr.alloc (.cells #[.string ⟨#[]⟩, .int .i64 0, .slice none 0 0] 65)).drew := ((hb4).alloc (by omega) _).drew
        have hsn : (wr.alloc (.cells #[.string ⟨#[]⟩, .int .i64 0, .slice none 0 0] 65)).drew.heap.size = wr.heap.size + 1 := by show (wr.alloc _).heap.size = _; simp
        have n_0 : (wr.alloc (.cells #[.string ⟨#[]⟩, .int .i64 0, .slice none 0 0] 65)).drew.cell? ⟨wr.heap.size, 0, none⟩ = some (.string ⟨#[]⟩) := box_cell (cs := #[.string ⟨#[]⟩, .int .i64 0, .slice none 0 0]) (T := 65) (i := 0) (Below.refl _ _).drew rfl
        have n_1 : (wr.alloc (.cells #[.string ⟨#[]⟩, .int .i64 0, .slice none 0 0] 65)).drew.cell? ⟨wr.heap.size, 1, none⟩ = some (.int .i64 0) := box_cell (cs := #[.string ⟨#[]⟩, .int .i64 0, .slice none 0 0]) (T := 65) (i := 1) (Below.refl _ _).drew rfl
        have n_2 : (wr.alloc (.cells #[.string ⟨#[]⟩, .int .i64 0, .slice none 0 0] 65)).drew.cell? ⟨wr.heap.size, 2, none⟩ = some (.slice none 0 0) := box_cell (cs := #[.string ⟨#[]⟩, .int .i64 0, .slice none 0 0]) (T := 65) (i := 2) (Below.refl _ _).drew rfl
        have f_0 : (wr.alloc (.cells #[.string ⟨#[]⟩, .int .i64 0, .slice none 0 0] 65)).drew.frozen? ⟨wr.heap.size, 0, none⟩ = false := box_frozen (cs := #[.string ⟨#[]⟩, .int .i64 0, .slice none 0 0]) (T := 65) (Below.refl _ _).drew
        have f_1 : (wr.alloc (.cells #[.string ⟨#[]⟩, .int .i64 0, .slice none 0 0] 65)).drew.frozen? ⟨wr.heap.size, 1, none⟩ = false := box_frozen (cs := #[.string ⟨#[]⟩, .int .i64 0, .slice none 0 0]) (T := 65) (Below.refl _ _).drew
        have f_2 : (wr.alloc (.cells #[.string ⟨#[]⟩, .int .i64 0, .slice none 0 0] 65)).drew.frozen? ⟨wr.heap.size, 2, none⟩ = false := box_frozen (cs := #[.string ⟨#[]⟩, .int .i64 0, .slice none 0 0]) (T := 65) (Below.refl _ _).drew
        have k_b_0 : (wr.alloc (.cells #[.string ⟨#[]⟩, .int .i64 0, .slice none 0 0] 65)).drew.cell? ⟨w.heap.size, 0, none⟩ = some (.slice ub un uc) := cell_box b_0
        have k_q_1 : (wr.alloc (.cells #[.string ⟨#[]⟩, .int .i64 0, .slice none 0 0] 65)).drew.cell? ⟨w.heap.size + 1, 1, none⟩ = some (.slice (some ⟨b1, o1, none⟩) qn qc) := cell_box q_1
        have k_e_0 : (wr.alloc (.cells #[.string ⟨#[]⟩, .int .i64 0, .slice none 0 0] 65)).drew.cell? ⟨b1, o1 + j * 2, none⟩ = some (.string m1) := cell_box e_0
        have k_e_1 : (wr.alloc (.cells #[.string ⟨#[]⟩, .int .i64 0, .slice none 0 0] 65)).drew.cell? ⟨b1, o1 + j * 2 + 1, none⟩ = some (.slice vb vn vc) := cell_box e_1
        go_wp2_with fail
        go_region_held3 (fun W => W.cell? ⟨w.heap.size, 0, none⟩ = some (.slice ub un uc) ∧ W.cell? ⟨w.heap.size + 1, 1, none⟩ = some (.slice (some ⟨b1, o1, none⟩) qn qc) ∧ W.cell? ⟨b1, o1 + j * 2, none⟩ = some (.string m1) ∧ W.cell? ⟨b1, o1 + j * 2 + 1, none⟩ = some (.slice vb vn vc)) (first | exact ⟨b_0, q_1, e_0, e_1⟩ | assumption | (go_split_ands; (first | exact ⟨cell_box (by assumption), cell_box (by assumption), cell_box (by assumption), cell_box (by assumption)⟩ | exact ⟨cell_set3 (by assumption) (by simp only []; omega), cell_set3 (by assumption) (by simp only []; omega), cell_set3 (by assumption) (by simp only []; omega), cell_set3 (by assumption) (by simp only []; omega)⟩))) (first | (go_at_call 36; (with_reducible refine (HC1.out _ hbd).mono ?_); rintro e w10 ⟨vb', vn', vc', rfl, _, z10⟩; have hS10 := (⟨(z10.cell (p := ⟨w.heap.size, 0, none⟩) (by simp only []; omega)).trans b_0, (z10.cell (p := ⟨w.heap.size + 1, 1, none⟩) (by simp only []; omega)).trans q_1, (z10.cell (p := ⟨b1, o1 + j * 2, none⟩) (by simp only []; omega)).trans e_0, (z10.cell (p := ⟨b1, o1 + j * 2 + 1, none⟩) (by simp only []; omega)).trans e_1⟩ : (fun W => W.cell? ⟨w.heap.size, 0, none⟩ = some (.slice ub un uc) ∧ W.cell? ⟨w.heap.size + 1, 1, none⟩ = some (.slice (some ⟨b1, o1, none⟩) qn qc) ∧ W.cell? ⟨b1, o1 + j * 2, none⟩ = some (.string m1) ∧ W.cell? ⟨b1, o1 + j * 2 + 1, none⟩ = some (.slice vb vn vc)) w10); have hz10 := z10.size) | (go_at_call 36; (with_reducible refine (HC1.out _ hbn).mono ?_); rintro e w10 ⟨vb', vn', vc', rfl, _, z10⟩; have hS10 := (⟨(z10.cell (p := ⟨w.heap.size, 0, none⟩) (by simp only []; omega)).trans k_b_0, (z10.cell (p := ⟨w.heap.size + 1, 1, none⟩) (by simp only []; omega)).trans k_q_1, (z10.cell (p := ⟨b1, o1 + j * 2, none⟩) (by simp only []; omega)).trans k_e_0, (z10.cell (p := ⟨b1, o1 + j * 2 + 1, none⟩) (by simp only []; omega)).trans k_e_1⟩ : (fun W => W.cell? ⟨w.heap.size, 0, none⟩ = some (.slice ub un uc) ∧ W.cell? ⟨w.heap.size + 1, 1, none⟩ = some (.slice (some ⟨b1, o1, none⟩) qn qc) ∧ W.cell? ⟨b1, o1 + j * 2, none⟩ = some (.string m1) ∧ W.cell? ⟨b1, o1 + j * 2 + 1, none⟩ = some (.slice vb vn vc)) w10); have hz10 := z10.size; replace n_0 := (z10.cell (p := ⟨wr.heap.size, 0, none⟩) (by simp only []; omega)).trans n_0; replace n_1 := (z10.cell (p := ⟨wr.heap.size, 1, none⟩) (by simp only []; omega)).trans n_1; replace n_2 := (z10.cell (p := ⟨wr.heap.size, 2, none⟩) (by simp only []; omega)).trans n_2; replace f_0 := (z10.frozen (p := ⟨wr.heap.size, 0, none⟩) (by simp only []; omega)).trans f_0; replace f_1 := (z10.frozen (p := ⟨wr.heap.size, 1, none⟩) (by simp only []; omega)).trans f_1; replace f_2 := (z10.frozen (p := ⟨wr.heap.size, 2, none⟩) (by simp only []; omega)).trans f_2))
        · obtain ⟨Wf, hW⟩ : ∃ W, W = w10.alloc (.cells #[.string ns, .int .i64 A, .slice vb' vn' vc'] 65) := ⟨_, rfl⟩
          have hbf : Below w.heap.size w Wf := by rw [hW]; exact (on hbd z10).alloc (by omega) _
          have hlf : Below w9.heap.size w9 Wf := by rw [hW]; exact (on hlc.drew z10).alloc (by have h9 := hlc.size; omega) _
          have t_1 : Wf.cell? ⟨w10.heap.size, 1, none⟩ = some (.int .i64 A) := by rw [hW]; exact box_cell (i := 1) (Below.refl _ _) rfl
          have x_1 : Wf.cell? ⟨w.heap.size + 1, 1, none⟩ = some (.slice (some ⟨b1, o1, none⟩) qn qc) := by rw [hW]; exact cell_box hS10.2.1
          have x_2 : Wf.cell? ⟨b1, o1 + j * 2 + 1, none⟩ = some (.slice vb vn vc) := by rw [hW]; exact cell_box hS10.2.2.2
          rw [← hW]
          clear hS10 n_0 n_1 n_2 f_0 f_1 f_2 k_b_0 k_q_1 k_e_0 k_e_1 hW z10 hbn hbd hz10
          cases s with
          | false =>
            go_wp2_with fail
            go_quiet (fail)
            go_wp2_with fail
            go_ret
            exact ⟨ret_bool (by rw [HA.out]; rfl), onD hbf ⟨_, rfl⟩⟩
          | true =>
            by_cases hd : A = (vn : Int)
            · have hd2 : (A == (vn : Int)) = true := by rw [beq_iff_eq]; exact hd
              have HE : Hid (queryFor db (vq, xs) = forFrom db (xs.drop (j + 1))) := Lib.hid (by rw [HA.out, decide_eq_true hd]; simp)
              clear hd HA
              go_wp2_with fail
              go_quiet (fail)
              go_wp2_with fail
              go_roundw
              case rel => exact ⟨j + 1, by omega, by go_num, HE.out, onD hlf ⟨_, rfl⟩⟩
              case measure => simp [intOf]; omega
            · have HE : Hid (queryFor db (vq, xs) = false) := Lib.hid (by rw [HA.out, decide_eq_false hd]; simp)
              have hd2 : (A == (vn : Int)) = false := by rw [beq_eq_false_iff_ne]; exact hd
              go_wp2_with fail
              go_quiet (fail)
              go_wp2_with fail
              go_ret
              exact ⟨ret_bool HE.out.symm, onD hbf ⟨_, rfl⟩⟩
        · obtain ⟨Wf, hW⟩ : ∃ W, W = ((w10.setCell ⟨wr.heap.size, 0, none⟩ (.string ns)).setCell ⟨wr.heap.size, 1, none⟩ (.int .i64 A)).setCell ⟨wr.heap.size, 2, none⟩ (.slice vb' vn' vc') := ⟨_, rfl⟩
          have hbf : Below w.heap.size w Wf := by
            rw [hW]
            exact (((on hbn z10).setCell (by simp only []; omega) _).setCell (by simp only []; omega) _).setCell (by simp only []; omega) _
          have hlf : Below w9.heap.size w9 Wf := by
            have h9 := hlc.size
            rw [hW]
            exact (((on ((hlc.alloc (by omega) _).drew) z10).setCell (by simp only []; omega) _).setCell (by simp only []; omega) _).setCell (by simp only []; omega) _
          have t_1 : Wf.cell? ⟨wr.heap.size, 1, none⟩ = some (.int .i64 A) := by rw [hW]; simp [n_1, go_sem]
          have x_1 : Wf.cell? ⟨w.heap.size + 1, 1, none⟩ = some (.slice (some ⟨b1, o1, none⟩) qn qc) := by rw [hW]; exact cell_set3 hS10.2.1 (by simp only []; omega)
          have x_2 : Wf.cell? ⟨b1, o1 + j * 2 + 1, none⟩ = some (.slice vb vn vc) := by rw [hW]; exact cell_set3 hS10.2.2.2 (by simp only []; omega)
          rw [← hW]
          clear hS10 n_0 n_1 n_2 f_0 f_1 f_2 k_b_0 k_q_1 k_e_0 k_e_1 hW z10 hbn hbd hz10
          cases s with
          | false =>
            go_wp2_with fail
            go_quiet (fail)
            go_wp2_with fail
            go_ret
            exact ⟨ret_bool (by rw [HA.out]; rfl), onD hbf ⟨_, rfl⟩⟩
          | true =>
            by_cases hd : A = (vn : Int)
            · have hd2 : (A == (vn : Int)) = true := by rw [beq_iff_eq]; exact hd
              have HE : Hid (queryFor db (vq, xs) = forFrom db (xs.drop (j + 1))) := Lib.hid (by rw [HA.out, decide_eq_true hd]; simp)
              clear hd HA
              go_wp2_with fail
              go_quiet (fail)
              go_wp2_with fail
              go_roundw
              case rel => exact ⟨j + 1, by omega, by go_num, HE.out, onD hlf ⟨_, rfl⟩⟩
              case measure => simp [intOf]; omega
            · have HE : Hid (queryFor db (vq, xs) = false) := Lib.hid (by rw [HA.out, decide_eq_false hd]; simp)
              have hd2 : (A == (vn : Int)) = false := by rw [beq_eq_false_iff_ne]; exact hd
              go_wp2_with fail
              go_quiet (fail)
              go_wp2_with fail
              go_ret
              exact ⟨ret_bool HE.out.symm, onD hbf ⟨_, rfl⟩⟩
      · have HE : Hid (queryFor db (vq, xs) = true) := Lib.hid (by rw [hE.out, for_end (by omega)])
        clear hE t1 hl
        go_wp2_with fail
        go_ret
        exact ⟨ret_bool HE.out.symm, hb4⟩

end Go.Proofs.YtkipgbgkhffkkaaGreat

/- Contracts: neighbors and connected masks of a query. -/
namespace Go.Proofs.YtkipgbgkhffkkaaGreat
open Go.RowKit
set_option linter.unusedVariables false
set_option linter.unusedSimpArgs false
set_option synthInstance.maxSize 2000
set_option synthInstance.maxHeartbeats 400000

/-- NeighborMask. -/
def nearMask (q : DQ) (k : Int) : Int := if maskOkB q k then ((near q k.toNat : Nat) : Int) else 0
/-- IsConnected. -/
def isConn (q : DQ) (k : Int) : Bool := maskOkB q k && conn q k.toNat
theorem nearMask_no {q : DQ} {k : Int} (h : maskOkB q k = false) : nearMask q k = 0 := by simp [nearMask, h]
theorem nearMask_yes {q : DQ} {K : Nat} (h : maskOkB q (K : Int) = true) : nearMask q (K : Int) = ((near q K : Nat) : Int) := by simp [nearMask, h]
theorem isConn_no {q : DQ} {k : Int} (h : maskOkB q k = false) : isConn q k = false := by simp [isConn, h]
theorem isConn_yes {q : DQ} {K : Nat} (h : maskOkB q (K : Int) = true) : isConn q (K : Int) = conn q K := by simp [isConn, h]
theorem connMasks_no {q : DQ} (h : fullMask q = 0) : connMasks q = [] := by simp [connMasks, h, connTo]
theorem fullMask_nat (q : DQ) : ∃ M : Nat, fullMask q = M ∧ M < 16 ∧ (M ≠ 0 → validQ q = true ∧ M < 2 ^ q.2.length) ∧ connMasks q = connTo q M := by
  by_cases h : validQ q = true
  · obtain ⟨n, hq⟩ := QOk.of h
    have h1 := pow_le16 hq.len
    have h2 := Nat.two_pow_pos q.2.length
    refine ⟨2 ^ q.2.length - 1, fullMask_yes h, by omega, fun _ => ⟨h, by omega⟩, by rw [connMasks, fullMask_yes h]; rfl⟩
  · exact ⟨0, fullMask_no (by simpa using h), by omega, fun h => absurd rfl h, by rw [connMasks_no (fullMask_no (by simpa using h))]; rfl⟩
theorem connMasks_len (q : DQ) : (connMasks q).length ≤ 15 := by
  obtain ⟨M, _, h2, _, h4⟩ := fullMask_nat q
  rw [h4]; have := connTo_len q M; omega
theorem connMasks_cnt (q : DQ) : cnt_I (connMasks q) ≤ 15 := connMasks_len q
theorem conn_joined (q : DQ) (m : Nat) : conn q (m + 1) = joined q (m + 1) := by simp [conn]

set_option maxHeartbeats 1000000 in
theorem isConn_spec (cs : List Value) (x : DQ) (k : Int) (w : World) (h : rQ.rep w cs x) :
    Calls Tryz.prog 43 #[.agg cs.toArray, .int .i64 k] w fun e w' => e = .returned (.bool (isConn x k)) ∧ Below w.heap.size w w' := by
  obtain ⟨ub, un, uc, rfl⟩ := rQ_form h
  have hb0 : Below w.heap.size w w := Below.refl _ _
  go_enter Tryz.func43, Tryz.ntmps43
  obtain ⟨w1, hw1⟩ : ∃ W, W = w.alloc (.cells #[.int .i64 x.1, .slice ub un uc] 38) := ⟨_, rfl⟩
  have z1 : Below w.heap.size w w1 := by rw [hw1]; exact (Below.refl _ _).alloc (Nat.le_refl _) _
  have s1 : w1.heap.size = w.heap.size + 1 := by rw [hw1]; simp
  have hb1 := on hb0 z1
  have b_0 : w1.cell? ⟨w.heap.size, 0, none⟩ = some (.int .i64 x.1) := by rw [hw1]; exact box_cell (Below.refl _ _) rfl
  have b_1 : w1.cell? ⟨w.heap.size, 1, none⟩ = some (.slice ub un uc) := by rw [hw1]; exact box_cell (Below.refl _ _) rfl
  have raw1_b_0 := b_0
  have raw1_b_1 := b_1
  rw [hw1] at raw1_b_0 raw1_b_1
  go_wp2_with fail
  rw [← hw1]
  clear hw1
  clear raw1_b_0 raw1_b_1
  refine (maskOk_spec _ x k _ (rQ.mono h hb1)).mono ?_
  rintro e w2 ⟨rfl, z2⟩
  have s3 := z2.size
  have hb3 := on hb1 z2
  replace b_0 := (z2.cell (p := ⟨w.heap.size, 0, none⟩) (by simp only []; omega)).trans b_0
  replace b_1 := (z2.cell (p := ⟨w.heap.size, 1, none⟩) (by simp only []; omega)).trans b_1
  by_cases hv : maskOkB x k = true
  case neg =>
    replace hv : maskOkB x k = false := by simpa using hv
    have HE := Lib.hid (isConn_no hv)
    go_wp2_with fail
    go_ret
    exact ⟨ret_bool HE.out.symm, hb3⟩
  obtain ⟨K, rfl, hK⟩ := maskOkB_lt hv
  obtain ⟨n, hq⟩ := QOk.of (maskOkB_valid hv)
  have HE := Lib.hid (isConn_yes hv)
  by_cases h0 : K = 0
  case pos =>
    subst h0
    have HE0 := Lib.hid (show isConn x ((0 : Nat) : Int) = false by rw [HE.out]; simp [conn])
    clear hq hK
    go_wp2_with fail
    go_ret
    exact ⟨ret_bool HE0.out.symm, hb3⟩
  have HJ := Lib.hid (show conn x K = joined x K by simp [conn, h0])
  have hpos : 0 < K := by omega
  clear h0
  go_wp2_with fail
  refine (joined_any _ x K n _ (rQ.mono h hb3) hq hK).mono ?_
  rintro e w4 ⟨rfl, z4⟩
  have s5 := z4.size
  have hb5 := on hb3 z4
  replace b_0 := (z4.cell (p := ⟨w.heap.size, 0, none⟩) (by simp only []; omega)).trans b_0
  replace b_1 := (z4.cell (p := ⟨w.heap.size, 1, none⟩) (by simp only []; omega)).trans b_1
  clear hq hK
  go_wp2_with fail
  go_ret
  exact ⟨ret_bool (by rw [HE.out, HJ.out]), hb5⟩

set_option maxHeartbeats 2000000 in
theorem connMasks_impl (cs : List Value) (x : DQ) (w : World) (h : rQ.rep w cs x) :
    Calls Tryz.prog 48 #[.agg cs.toArray] w fun e w' => ∃ u, e = .returned u ∧ Own oI w.heap.size w'.heap.size w' [u] (connMasks x) ∧ Below w.heap.size w w' := by
  obtain ⟨ub, un, uc, rfl⟩ := rQ_form h
  have hb0 : Below w.heap.size w w := Below.refl _ _
  obtain ⟨M, hM, hM16, hMv, hMc⟩ := fullMask_nat x
  have HV := Lib.hid hMv
  have HC := Lib.hid hMc
  clear hMv hMc
  have hfull := fun W (hW : rQ.rep W [.int .i64 x.1, .slice ub un uc] x) => fullMask_impl _ x W hW
  rw [hM] at hfull
  have HF := Lib.hid hfull
  clear hfull hM
  go_enter Tryz.func48, Tryz.ntmps48
  obtain ⟨w1, hw1⟩ : ∃ W, W = w.alloc (.cells #[.int .i64 x.1, .slice ub un uc] 38) := ⟨_, rfl⟩
  have z1 : Below w.heap.size w w1 := by rw [hw1]; exact (Below.refl _ _).alloc (Nat.le_refl _) _
  have s1 : w1.heap.size = w.heap.size + 1 := by rw [hw1]; simp
  have hb1 := on hb0 z1
  have b_0 : w1.cell? ⟨w.heap.size, 0, none⟩ = some (.int .i64 x.1) := by rw [hw1]; exact box_cell (Below.refl _ _) rfl
  have b_1 : w1.cell? ⟨w.heap.size, 1, none⟩ = some (.slice ub un uc) := by rw [hw1]; exact box_cell (Below.refl _ _) rfl
  have raw1_b_0 := b_0
  have raw1_b_1 := b_1
  rw [hw1] at raw1_b_0 raw1_b_1
  obtain ⟨w2, hw2⟩ : ∃ W, W = w1.alloc (.cells #[] 3) := ⟨_, rfl⟩
  have z2 : Below w1.heap.size w1 w2 := by rw [hw2]; exact (Below.refl _ _).alloc (Nat.le_refl _) _
  have s2 : w2.heap.size = w1.heap.size + 1 := by rw [hw2]; simp
  have hb2 := on hb1 z2
  replace b_0 := (z2.cell (p := ⟨w.heap.size, 0, none⟩) (by simp only []; omega)).trans b_0
  replace b_1 := (z2.cell (p := ⟨w.heap.size, 1, none⟩) (by simp only []; omega)).trans b_1
  have ho : ∀ S, Acc 3 O.int w1.heap.size S w2.heap.size w2 (.slice (some ⟨w.heap.size + 1, 0, none⟩) 0 0) [] := fun S => by rw [hw2]; exact Acc.empty (by omega) (by simp; omega)
  go_wp2_with fail
  rw [← hw1]
  rw [← hw2]
  clear hw2 hw1
  clear raw1_b_0 raw1_b_1
  go_loopw [3, 4] (fun v k wr => ∃ j : Nat, j ≤ M ∧ k = .int .i64 ((j : Int) + 1) ∧ Acc 3 O.int w1.heap.size w2.heap.size wr.heap.size wr v (connTo x j) ∧ Turn w1.heap.size (w1.heap.size + 1) w2 wr) (fun _ k _ => 16 - (intOf k).toNat)
  case atStart => exact ⟨0, Nat.zero_le _, rfl, (ho _).wide (Nat.le_refl _) (by omega), turn_refl _ _ _⟩
  case round =>
    obtain ⟨j, hj, rfl, hacc, hdr⟩ := hrel
    have hlc := hdr
    clear ho
    have s3 := hdr.size
    have hb3 := hb2.trans ((hdr.below (by omega)).mono (by omega))
    replace b_0 := (hdr.cell (p := ⟨w.heap.size, 0, none⟩) (by simp only []; omega) (by simp only []; omega)).trans b_0
    replace b_1 := (hdr.cell (p := ⟨w.heap.size, 1, none⟩) (by simp only []; omega) (by simp only []; omega)).trans b_1
    have hlen := connTo_len x j
    go_wp2_with fail
    refine (HF.out _ (rQ.mono h hb3)).mono ?_
    rintro e w7 ⟨rfl, z7⟩
    have s4 := z7.size
    have hb4 := on hb3 z7
    replace b_0 := (z7.cell (p := ⟨w.heap.size, 0, none⟩) (by simp only []; omega)).trans b_0
    replace b_1 := (z7.cell (p := ⟨w.heap.size, 1, none⟩) (by simp only []; omega)).trans b_1
    replace hlc := hlc.trans (turn_below z7 (Nat.le_refl _))
    replace hacc := hacc.below z7 (by omega)
    by_cases hlt : j < M
    · obtain ⟨hv, hM2⟩ := HV.out (by omega)
      obtain ⟨n, hq⟩ := QOk.of hv
      have e1 : ((j : Int) + 1) = ((j + 1 : Nat) : Int) := by omega
      have hcall := fun W (hW : rQ.rep W [.int .i64 x.1, .slice ub un uc] x) => connected_any _ x (j + 1) n W hW hq (by omega)
      rw [conn_joined, ← e1] at hcall
      have HC2 := Lib.hid hcall
      have hj1 : (j : Int) + 1 ≤ (M : Int) := by omega
      clear hcall e1 hq hv hM2
      obtain ⟨t, ht⟩ : ∃ t, t = joined x (j + 1) := ⟨_, rfl⟩
      rw [← ht] at HC2
      go_wp2_with fail
      refine (HC2.out _ (rQ.mono h hb4)).mono ?_
      rintro e w8 ⟨rfl, z8⟩
      have s5 := z8.size
      have hb5 := on hb4 z8
      replace b_0 := (z8.cell (p := ⟨w.heap.size, 0, none⟩) (by simp only []; omega)).trans b_0
      replace b_1 := (z8.cell (p := ⟨w.heap.size, 1, none⟩) (by simp only []; omega)).trans b_1
      replace hlc := hlc.trans (turn_below z8 (Nat.le_refl _))
      replace hacc := hacc.below z8 (by omega)
      cases t with
      | true =>
        have HY := Lib.hid (connTo_yes ht.symm)
        clear ht
        go_wp2_with ((at_builtin; refine wpList_accI _ _ _ _ _ hacc hlc rfl (by omega) (by omega) ⟨by omega, by omega⟩ (by omega) rfl rfl rfl rfl rfl ?_; intro v' w1 hacc' ht' hsz'))
        rw [show ((j : Int) + 1) = ((j + 1 : Nat) : Int) by omega, ← HY.out] at hacc'
        go_roundw
        case rel => exact ⟨j + 1, by omega, by go_num, hacc', ht'⟩
        case measure => simp [intOf]; omega
      | false =>
        rw [← connTo_no ht.symm] at hacc
        have HO := Lib.hid (hacc.wide (hi' := w8.heap.size) (Nat.le_refl _) (by omega))
        clear ht hacc
        go_wp2_with fail
        go_roundw
        case rel => exact ⟨j + 1, by omega, by go_num, HO.out, hlc⟩
        case measure => simp [intOf]; omega
    · obtain rfl : j = M := by omega
      have hj1 : ¬ ((j : Int) + 1 ≤ (j : Int)) := by omega
      obtain ⟨a', n', cap2, rfl⟩ := hacc.form3
      rw [← HC.out] at hacc
      have HO := Lib.hid (hacc.own (B := w.heap.size) (hi' := w7.heap.size) (by omega) (by omega) (by omega))
      clear hacc
      go_wp2_with fail
      go_ret
      exact ⟨_, rfl, HO.out, hb4⟩

end Go.Proofs.YtkipgbgkhffkkaaGreat

/- Plain: the answer of a query on the atoms of a mask; the program's join and the reference's search give one answer. -/
namespace Go.Proofs.YtkipgbgkhffkkaaGreat
open Go.RowKit
set_option linter.unusedVariables false
set_option linter.unusedSimpArgs false

/-- The first j atoms, as far as they are in the mask. -/
def pickTo (K : Nat) (xs : List DA) : Nat → List DA
  | 0 => []
  | j + 1 => pickTo K xs j ++ (if bitAt K j then (xs[j]?).toList else [])
theorem pickTo_yes {K j : Nat} {xs : List DA} {a : DA} (h : xs[j]? = some a) (hb : bitAt K j = true) : pickTo K xs (j + 1) = pickTo K xs j ++ [a] := by
  rw [pickTo, if_pos hb, h]; rfl
theorem pickTo_no {K j : Nat} {xs : List DA} (hb : bitAt K j = false) : pickTo K xs (j + 1) = pickTo K xs j := by
  rw [pickTo, if_neg (by rw [hb]; simp), List.append_nil]
theorem pickTo_len (K : Nat) (xs : List DA) : ∀ j, (pickTo K xs j).length ≤ j
  | 0 => Nat.le_refl _
  | j + 1 => by
    have := pickTo_len K xs j
    rw [pickTo, List.length_append]
    split
    · cases xs[j]? <;> simp <;> omega
    · simp; omega
theorem pickTo_mem {K : Nat} {xs : List DA} {a : DA} : ∀ {j : Nat}, a ∈ pickTo K xs j ↔ ∃ i, i < j ∧ bitAt K i = true ∧ xs[i]? = some a
  | 0 => by simp [pickTo]
  | j + 1 => by
    rw [pickTo, List.mem_append, pickTo_mem]
    constructor
    · rintro (⟨i, h1, h2, h3⟩ | h)
      · exact ⟨i, by omega, h2, h3⟩
      · split at h
        · rename_i hb
          exact ⟨j, by omega, hb, by simpa using h⟩
        · cases h
    · rintro ⟨i, h1, h2, h3⟩
      by_cases hi : i = j
      · subst hi
        right
        rw [if_pos h2, h3]
        simp
      · exact .inl ⟨i, by omega, h2, h3⟩
/-- The atoms of a mask, and their tables. -/
def selA (q : DQ) (K : Nat) : List DA := pickTo K q.2 q.2.length
def tabsOf (db : DDb) (as' : List DA) : List DT := as'.map (fun a => lookT (look db a.1))
def evalRA (db : DDb) (q : DQ) (K : Nat) : List RA := zipRA (tabsOf db (selA q K)) (selA q K)
theorem zipRA_map (db : DDb) (zs : List DA) : zipRA (tabsOf db zs) zs = zs.map (fun a => ((lookT (look db a.1)).2.2, a.2)) := by
  unfold zipRA tabsOf
  induction zs with
  | nil => rfl
  | cons a t ih => simp only [List.map_cons, List.zipWith_cons_cons, ih]
/-- The same for the first j atoms. -/
def raTo (db : DDb) (xs : List DA) (K j : Nat) : List RA := zipRA (tabsOf db (pickTo K xs j)) (pickTo K xs j)
theorem raTo_yes {db : DDb} {K j : Nat} {xs : List DA} {a : DA} (h : xs[j]? = some a) (hb : bitAt K j = true) : raTo db xs K (j + 1) = raTo db xs K j ++ [((lookT (look db a.1)).2.2, a.2)] := by
  rw [raTo, raTo, zipRA_map, zipRA_map, pickTo_yes h hb, List.map_append]; rfl
theorem raTo_no {db : DDb} {K j : Nat} {xs : List DA} (hb : bitAt K j = false) : raTo db xs K (j + 1) = raTo db xs K j := by
  rw [raTo, raTo, pickTo_no hb]
theorem raTo_all (db : DDb) (q : DQ) (K : Nat) : raTo db q.2 K q.2.length = evalRA db q K := rfl
theorem raTo_cnt (db : DDb) (xs : List DA) (K j : Nat) : (raTo db xs K j).length ≤ j := by
  rw [raTo, zipRA_map, List.length_map]; exact pickTo_len K xs j
/-- Whether a query can be evaluated on a mask, and what comes. -/
def evalOk (db : DDb) (q : DQ) (k : Int) : Bool := queryFor db q && betw k 1 (fullMask q)
def evalK (db : DDb) (q : DQ) (K : Nat) : DAn := (varsOf q K, walkE (evalRA db q K) (varsOf q K) (varsOf q K).length [])
def evalM (db : DDb) (q : DQ) (k : Int) : DAn := if evalOk db q k then evalK db q k.toNat else ([], [])
theorem evalM_no {db : DDb} {q : DQ} {k : Int} (h : evalOk db q k = false) : evalM db q k = ([], []) := by simp [evalM, h]
theorem evalM_yes {db : DDb} {q : DQ} {K : Nat} (h : evalOk db q (K : Int) = true) : evalM db q (K : Int) = evalK db q K := by simp [evalM, h]
theorem evalOk_valid {db : DDb} {q : DQ} {k : Int} (h : evalOk db q k = true) : queryFor db q = true ∧ validQ q = true ∧ ∃ K : Nat, k = K ∧ 1 ≤ K ∧ K < 2 ^ q.2.length ∧ maskOkB q (K : Int) = true := by
  rw [evalOk, Bool.and_eq_true] at h
  have hv : validQ q = true := by have := h.1; rw [queryFor, Bool.and_eq_true] at this; exact this.1
  have hb := h.2
  rw [betw, Bool.and_eq_true, decide_eq_true_eq, decide_eq_true_eq] at hb
  have hf : fullMask q = ((2 ^ q.2.length - 1 : Nat) : Int) := by simp [fullMask, hv]
  have hp := Nat.two_pow_pos q.2.length
  refine ⟨h.1, hv, k.toNat, by omega, by omega, by omega, ?_⟩
  simp only [maskOkB, hv, betw, Bool.true_and, Bool.and_eq_true, decide_eq_true_eq]
  omega
theorem for_mem {db : DDb} : ∀ {xs : List DA}, forFrom db xs = true → ∀ a ∈ xs, (look db a.1).isSome = true ∧ (lookT (look db a.1)).2.1 = (a.2.length : Int)
  | [], _, a, ha => by cases ha
  | x :: t, h, a, ha => by
    simp only [forFrom, Bool.and_eq_true, decide_eq_true_eq] at h
    rcases List.mem_cons.1 ha with rfl | ha
    · exact ⟨h.1, h.2.1⟩
    · exact for_mem h.2.2 a ha
theorem varsFrom_nodup {n : Int} : ∀ {vs pre : List Int}, varsFrom n pre vs = true → vs.Nodup ∧ ∀ v ∈ vs, v ∉ pre
  | [], _, _ => ⟨List.nodup_nil, by simp⟩
  | x :: t, pre, h => by
    simp only [varsFrom, Bool.and_eq_true, Bool.not_eq_true', has, decide_eq_false_iff_not] at h
    obtain ⟨h1, h2⟩ := varsFrom_nodup h.2
    refine ⟨List.nodup_cons.2 ⟨fun hm => h2 x hm (by simp), h1⟩, fun v hv => ?_⟩
    rcases List.mem_cons.1 hv with rfl | hv
    · exact h.1.2
    · exact fun hm => h2 v hv (by simp [hm])
theorem validFrom_nodup {n : Nat} : ∀ {xs : List DA} {m : Nat}, validFrom n m xs = true → ∀ a ∈ xs, a.2.Nodup
  | [], _, _, a, ha => by cases ha
  | x :: t, m, h, a, ha => by
    simp only [validFrom, Bool.and_eq_true] at h
    rcases List.mem_cons.1 ha with rfl | ha
    · exact (varsFrom_nodup h.2.1).1
    · exact validFrom_nodup h.2.2 a ha
theorem validQ_nodup {q : DQ} (h : validQ q = true) : ∀ a ∈ q.2, a.2.Nodup := by
  simp only [validQ, Bool.and_eq_true] at h
  exact validFrom_nodup h.2
theorem look_some_T {db : DDb} {name : ByteArray} (h : (look db name).isSome = true) : TOk (lookT (look db name)) := by
  obtain ⟨t, ht⟩ := Option.isSome_iff_exists.1 h
  rw [ht]
  exact look_ok ht
/-- Of a table that a query's atom names. -/
theorem atom_fits {db : DDb} {q : DQ} (h : queryFor db q = true) {a : DA} (ha : a ∈ q.2) : TOk (lookT (look db a.1)) ∧ ∀ r ∈ (lookT (look db a.1)).2.2, r.length = a.2.length := by
  rw [queryFor, Bool.and_eq_true] at h
  obtain ⟨h1, h2⟩ := for_mem h.2 a ha
  have hT := look_some_T h1
  refine ⟨hT, fun r hr => ?_⟩
  have := (hT.row r hr).1
  omega
theorem selA_mem {q : DQ} {K : Nat} {a : DA} (h : a ∈ selA q K) : a ∈ q.2 := by
  obtain ⟨i, _, _, h3⟩ := pickTo_mem.1 h
  exact List.mem_of_getElem? h3
theorem pick_mem {q : DQ} {K j : Nat} {a : DA} (h : a ∈ pickTo K q.2 j) : a ∈ q.2 := by
  obtain ⟨i, _, _, h3⟩ := pickTo_mem.1 h
  exact List.mem_of_getElem? h3
theorem evalRA_mem {db : DDb} {q : DQ} {K : Nat} {p : RA} (h : p ∈ evalRA db q K) : ∃ a ∈ selA q K, p = ((lookT (look db a.1)).2.2, a.2) := by
  rw [evalRA, zipRA_map] at h
  obtain ⟨a, ha, rfl⟩ := List.mem_map.1 h
  exact ⟨a, ha, rfl⟩
theorem evalRA_fine {db : DDb} {q : DQ} {n K : Nat} (h : queryFor db q = true) (hq : QOk q n) : ∀ p ∈ evalRA db q K, FineA n p := by
  intro p hp
  obtain ⟨a, ha, rfl⟩ := evalRA_mem hp
  have hm := selA_mem ha
  obtain ⟨h1, h2⟩ := atom_fits h hm
  have hv : validQ q = true := by rw [queryFor, Bool.and_eq_true] at h; exact h.1
  exact ⟨validQ_nodup hv a hm, fun v hv => hq.vars a hm v hv, fun r hr => ⟨h2 r hr, (h1.row r hr).2⟩⟩
theorem someFrom_iff {K v : Nat} : ∀ {xs : List DA} {i : Nat}, someFrom K v i xs = true ↔ ∃ j a, xs[j]? = some a ∧ bitAt K (i + j) = true ∧ (v : Int) ∈ a.2
  | [], i => by simp [someFrom]
  | a :: t, i => by
    rw [someFrom, Bool.or_eq_true, Bool.and_eq_true, someFrom_iff]
    constructor
    · rintro (⟨h1, h2⟩ | ⟨j, b, h1, h2, h3⟩)
      · exact ⟨0, a, rfl, h1, by simpa [has] using h2⟩
      · exact ⟨j + 1, b, h1, by rw [show i + (j + 1) = i + 1 + j by omega]; exact h2, h3⟩
    · rintro ⟨j, b, h1, h2, h3⟩
      cases j with
      | zero =>
        simp at h1
        subst h1
        exact .inl ⟨h2, by simpa [has] using h3⟩
      | succ j => exact .inr ⟨j, b, h1, by rw [show i + 1 + j = i + (j + 1) by omega]; exact h2, h3⟩
theorem bitsTo_nodup {x : Nat} : ∀ m, (bitsTo x m).Nodup ∧ ∀ v ∈ bitsTo x m, 0 ≤ v ∧ v < (m : Int)
  | 0 => ⟨List.nodup_nil, by simp [bitsTo]⟩
  | m + 1 => by
    obtain ⟨h1, h2⟩ := bitsTo_nodup (x := x) m
    cases hb : bitAt x m with
    | true =>
      rw [bitsTo_yes hb]
      refine ⟨List.nodup_append.2 ⟨h1, by simp, fun a ha b hb9 e => ?_⟩, fun v hv => ?_⟩
      · simp at hb9
        have := h2 a ha
        omega
      · rcases List.mem_append.1 hv with hv | hv
        · have := h2 v hv; omega
        · simp at hv; omega
    | false =>
      rw [bitsTo_no hb]
      exact ⟨h1, fun v hv => by have := h2 v hv; omega⟩
theorem varsOf_mem {db : DDb} {q : DQ} {n K : Nat} (hq : QOk q n) (v : Int) : v ∈ varsOf q K ↔ (0 ≤ v ∧ v < (n : Int) ∧ ∃ p ∈ evalRA db q K, v ∈ p.2) := by
  have key : (∃ p ∈ evalRA db q K, v ∈ p.2) ↔ ∃ i a, q.2[i]? = some a ∧ bitAt K i = true ∧ v ∈ a.2 := by
    rw [evalRA, zipRA_map]
    constructor
    · rintro ⟨p, hp, hv⟩
      obtain ⟨a, ha, rfl⟩ := List.mem_map.1 hp
      obtain ⟨i, _, h2, h3⟩ := pickTo_mem.1 ha
      exact ⟨i, a, h3, h2, hv⟩
    · rintro ⟨i, a, h1, h2, h3⟩
      exact ⟨_, List.mem_map.2 ⟨a, pickTo_mem.2 ⟨i, (List.getElem?_eq_some_iff.1 h1).1, h2, h1⟩, rfl⟩, h3⟩
  rw [key]
  have hb := hq.bits_lt K
  constructor
  · intro h
    have hr := (bitsTo_nodup (x := bitsOf q K) 4).2 v h
    obtain ⟨u, rfl⟩ := Int.eq_ofNat_of_zero_le hr.1
    have h1 : has (varsOf q K) (u : Int) = true := by simpa [has] using h
    rw [varsOf_has q (by omega)] at h1
    have h2 := hq.some K u
    rw [bitAt_testBit, h1] at h2
    obtain ⟨j, a, h3, h4, h5⟩ := someFrom_iff.1 h2.symm
    rw [List.drop_zero] at h3
    rw [Nat.zero_add] at h4
    exact ⟨hr.1, (hq.vars a (List.mem_of_getElem? h3) _ h5).2, j, a, h3, h4, h5⟩
  · rintro ⟨h0, hn, i, a, h1, h2, h3⟩
    obtain ⟨u, rfl⟩ := Int.eq_ofNat_of_zero_le h0
    have hu : u < 4 := by have := hq.le; omega
    have h4 := hq.some K u
    have h5 : someFrom K u 0 (q.2.drop 0) = true := someFrom_iff.2 ⟨i, a, by rw [List.drop_zero]; exact h1, by rw [Nat.zero_add]; exact h2, h3⟩
    rw [h5, bitAt_testBit] at h4
    have h6 : has (varsOf q K) (u : Int) = true := by rw [varsOf_has q hu]; exact h4
    simpa [has] using h6
theorem raTo_mem {db : DDb} {xs : List DA} {K j : Nat} {p : RA} (h : p ∈ raTo db xs K j) : ∃ a ∈ xs, p = ((lookT (look db a.1)).2.2, a.2) := by
  rw [raTo, zipRA_map] at h
  obtain ⟨a, ha, rfl⟩ := List.mem_map.1 h
  obtain ⟨i, _, _, h3⟩ := pickTo_mem.1 ha
  exact ⟨a, List.mem_of_getElem? h3, rfl⟩
theorem atom_fine {db : DDb} {q : DQ} {n : Nat} (h : queryFor db q = true) (hq : QOk q n) {a : DA} (hm : a ∈ q.2) : FineA n ((lookT (look db a.1)).2.2, a.2) := by
  obtain ⟨h1, h2⟩ := atom_fits h hm
  have hv : validQ q = true := by rw [queryFor, Bool.and_eq_true] at h; exact h.1
  exact ⟨validQ_nodup hv a hm, fun v hv => hq.vars a hm v hv, fun r hr => ⟨h2 r hr, (h1.row r hr).2⟩⟩
/-- What the program's list is known to hold on the way. -/
theorem joinTo_facts {db : DDb} {q : DQ} {n : Nat} (h : queryFor db q = true) (hq : QOk q n) (K : Nat) {j : Nat} (hj : j ≤ 4) : (joinAll n (raTo db q.2 K j)).length ≤ 4096 ∧ ∀ x ∈ joinAll n (raTo db q.2 K j), x.length = n := by
  refine ⟨?_, fun x hx => joinAll_row (fun p hp => ?_) hx⟩
  · have h1 := joinAll_len (n := n) (L := raTo db q.2 K j) (fun p hp => by
      obtain ⟨a, ha, rfl⟩ := raTo_mem hp
      exact (atom_fits h ha).1.len)
    have h2 := raTo_cnt db q.2 K j
    have h3 : 8 ^ (raTo db q.2 K j).length ≤ 8 ^ 4 := Nat.pow_le_pow_right (by omega) (by omega)
    omega
  · obtain ⟨a, ha, rfl⟩ := raTo_mem hp
    exact atom_fine h hq ha
/-- The program's answer is the reference's. -/
theorem eval_one {db : DDb} {q : DQ} {n K : Nat} (h : queryFor db q = true) (hq : QOk q n) : canon ((joinAll n (evalRA db q K)).map (fun x => sel x (varsOf q K))) = (evalK db q K).2 :=
  answer_eq (evalRA_fine h hq) (bitsTo_nodup 4).1 (varsOf_mem hq)
theorem evalRA_len {db : DDb} {q : DQ} {n K : Nat} (h : queryFor db q = true) (hq : QOk q n) : ∀ p ∈ evalRA db q K, p.1.length ≤ 8 := by
  intro p hp
  obtain ⟨a, ha, rfl⟩ := evalRA_mem hp
  exact (atom_fits h (selA_mem ha)).1.len
/-- How great an answer is. -/
theorem evalM_len (db : DDb) (q : DQ) (k : Int) : (evalM db q k).1.length ≤ 4 ∧ (evalM db q k).2.length ≤ 10000 ∧ ∀ r ∈ (evalM db q k).2, r.length ≤ 4 := by
  cases h : evalOk db q k with
  | false => rw [evalM_no h]; simp
  | true =>
    obtain ⟨_, _, K, rfl, _⟩ := evalOk_valid h
    rw [evalM_yes h]
    have h4 := varsOf_len q K
    refine ⟨h4, ?_, fun r hr => ?_⟩
    · have h1 := walkE_len (evalRA db q K) (varsOf q K) (varsOf q K).length []
      have h2 : 10 ^ (varsOf q K).length ≤ 10 ^ 4 := Nat.pow_le_pow_right (by omega) h4
      show (walkE _ _ _ _).length ≤ _
      omega
    · obtain ⟨s, hz, hs, _⟩ := walkE_mem.1 hr
      rw [hz, List.nil_append]
      omega

end Go.Proofs.YtkipgbgkhffkkaaGreat

/- Contracts: the answer of a query on the atoms of a mask, by the program. -/
namespace Go.Proofs.YtkipgbgkhffkkaaGreat
open Go.RowKit
set_option linter.unusedVariables false
set_option linter.unusedSimpArgs false
set_option synthInstance.maxSize 2000
set_option synthInstance.maxHeartbeats 400000

/-- A row of one's own, whose block is known. -/
theorem own_row {lo hi n : Nat} {w : World} {v : Value} {xs : List Int} (h : Own oI lo hi w [v] xs) (hn : xs.length = n) (hpos : 0 < n) : ∃ g cap, v = .slice (some ⟨g, 0, none⟩) n cap ∧ OwnInts lo w (.slice (some ⟨g, 0, none⟩) n cap) n xs ∧ lo ≤ g ∧ g < hi ∧ g < w.heap.size := by
  subst hn
  obtain ⟨fp, hrep, hnd, hlim⟩ := h
  obtain ⟨a, cap, he, hO, hfp⟩ := oI_own hrep
  simp at he
  subst he
  rcases hO.row.2 with ⟨h1, h2⟩ | ⟨g, cap', cur, h1, h2, h3, h4⟩
  · omega
  · simp at h1
    obtain ⟨rfl, rfl⟩ := h1
    have hg := hlim g (by rw [hfp]; simp [bl, Value.ownBlock])
    refine ⟨g, cap, rfl, ⟨hO.len, ⟨hO.row.1, .inr ⟨g, cap, cur, rfl, hg.1, h3, h4⟩⟩, hO.rng⟩, hg.1, hg.2, (Array.getElem?_eq_some_iff.1 h3).1⟩
theorem map_set_int (xs : List Int) (i : Nat) (u : Int) : (xs.set i u).map (Value.int .i64) = (xs.map (Value.int .i64)).set i (.int .i64 u) := by
  rw [List.map_set]
/-- A cell of a row of one's own is written. -/
theorem OwnInts.put {B : Nat} {w : World} {g n cap c : Nat} {xs : List Int} {u : Int} (h : OwnInts B w (.slice (some ⟨g, 0, none⟩) n cap) n xs) (hc : c < n) (hu : I64 u) : OwnInts B (w.setCell ⟨g, c, none⟩ (.int .i64 u)) (.slice (some ⟨g, 0, none⟩) n cap) n (xs.set c u) := by
  refine ⟨by rw [List.length_set]; exact h.len, ?_, fun x hx => ?_⟩
  · rcases h.row.2 with ⟨h1, _⟩ | ⟨g', cap', cur, h1, h2, h3, h4, h5, h6, h7⟩
    · simp at h1
    · simp at h1
      obtain ⟨rfl, rfl⟩ := h1
      refine ⟨by simp [h.len], .inr ⟨g, cap, cur.setIfInBounds c (.int .i64 u), rfl, h2, heap_setCell_same w g c cur _ _ h3, h4, h5, by simpa using h6, ?_⟩⟩
      rw [Array.toList_setIfInBounds, map_set_int, ← h7]
      rw [List.take_set]
  · rcases List.mem_or_eq_of_mem_set hx with hx | rfl
    · exact h.rng x hx
    · exact hu
theorem Acc.apart {α : Type} {E : TypeId} {o : OS α} {lo S hi g : Nat} {w w' : World} {v : Value} {xs : List α} (h : Acc E o lo S hi w v xs) (ht : Turn g (g + 1) w w') (hg : hi ≤ g) (hh : hi ≤ w.heap.size) : Acc E o lo S hi w' v xs := by
  obtain ⟨fp, h3, h4, h5⟩ := h
  exact ⟨fp, (O.slice E o).frame h3 (fun k hk => ht.block k (by have := (h5 k hk).2; omega) (by have := (h5 k hk).2; omega)), h4, h5⟩
theorem OwnInts.cellAt {B : Nat} {w : World} {g n cap c : Nat} {xs : List Int} (h : OwnInts B w (.slice (some ⟨g, 0, none⟩) n cap) n xs) (hc : c < n) : w.cell? ⟨g, c, none⟩ = some (.int .i64 (xs.getD c 0)) ∧ w.frozen? ⟨g, c, none⟩ = false := by
  obtain ⟨g2, hg, _, h1, h2⟩ := own_cells h.row c hc
  simp at hg
  subst hg
  refine ⟨?_, h2⟩
  rw [h1, List.getElem?_map, List.getD_eq_getElem?_getD, List.getElem?_eq_getElem (by rw [h.len]; exact hc)]
  rfl
theorem Turn.apart {lo g : Nat} {a b c : World} (h : Turn lo (lo + 1) a b) (k : Turn g (g + 1) b c) (hg : a.heap.size ≤ g) : Turn lo (lo + 1) a c :=
  ⟨k.os.trans h.os, k.tape.trans h.tape, k.output.trans h.output, Nat.le_trans h.size k.size, fun i hi hx => (k.block i (by have := h.size; omega) (.inl (by omega))).trans (h.block i hi hx)⟩
theorem OwnInts.turnIn {B : Nat} {w : World} {v : Value} {n : Nat} {xs : List Int} (h : OwnInts B w v n xs) (m : Nat) : OwnInts B (w.drewN m) v n xs := h.below (Drew.below ⟨m, rfl⟩ _)

theorem ownT_rows9 {lo hi vn vc : Nat} {w : World} {ns : ByteArray} {A : Int} {vb : Option Addr} {r : List (List Int)} (h : Own oT lo hi w [.string ns, .int .i64 A, .slice vb vn vc] (ns, A, r)) : Sl rI w vb vn r := by
  obtain ⟨vb2, vn2, vc2, he9, _, _, gr⟩ := rT_open (h.rd reads_T)
  simp at he9
  obtain ⟨rfl, rfl, rfl⟩ := he9
  exact rS_sl gr

set_option maxRecDepth 100000 in
set_option maxHeartbeats 8000000 in
theorem evaluate_any (cs ds : List Value) (db : DDb) (x : DQ) (K n : Nat) (w : World) (h : rDb.rep w cs db) (h' : rQ.rep w ds x) (hf : queryFor db x = true) (hq : QOk x n) (hK : K < 2 ^ x.2.length) :
    Calls Tryz.prog 49 #[.agg cs.toArray, .agg ds.toArray, .int .i64 (K : Int)] w fun e w' => ∃ us, e = .returned (.agg us.toArray) ∧ Own oAn w.heap.size w'.heap.size w' us (evalK db x K) ∧ Below w.heap.size w w' := by
  have hK16 : K < 16 := by
    have := Nat.pow_le_pow_right (show 0 < 2 by omega) hq.len
    omega
  have HVA := Lib.hid (fun W (hW : Below w.heap.size w W) => variables_any ds x K n W (rQ.mono h' hW) hq hK16)
  obtain ⟨ub, un, uc, rfl, g1⟩ := rDb_open h
  obtain ⟨qb, qn, qc, rfl, hi2, gq⟩ := rQ_open h'
  have HCK := Lib.hid (fun name W (hW : Below w.heap.size w W) => lookI_any [.slice ub un uc] db name W (rDb.mono h hW))
  have HONE := Lib.hid (eval_one (K := K) hf hq)
  have HJF := Lib.hid (fun j (hj : j ≤ 4) => joinTo_facts hf hq K hj)
  have HALL := Lib.hid (raTo_all db x K)
  have HFA := Lib.hid (fun a (ha : a ∈ x.2) => atom_fine hf hq ha)
  have HFT := Lib.hid (fun a (ha : a ∈ x.2) => (atom_fits hf ha).1)
  have HVL := Lib.hid (fun a (ha : a ∈ x.2) => hq.vlen a ha)
  obtain ⟨V, hV⟩ : ∃ V, varsOf x K = V := ⟨_, rfl⟩
  have hV4 : V.length ≤ 4 := by rw [← hV]; exact varsOf_len x K
  obtain ⟨E, hE⟩ : ∃ E, evalK db x K = E := ⟨_, rfl⟩
  have HE1 : Hid (E.1 = V) := Lib.hid (by rw [← hE, ← hV]; rfl)
  rw [hV, hE] at HONE
  rw [hV] at HVA
  rw [hE]
  have hn1 := hq.pos
  have hn4 := hq.le
  have hql := hq.len
  have hc9 := hq.cnt
  obtain ⟨vq, xs⟩ := x
  simp only at hc9 hi2 gq HVA HJF HALL HFA HFT HVL hql
  subst hc9
  have t0 := rS_sl gq
  have hl := t0.len
  have hnn := t0.small
  have hqn4 : qn ≤ 4 := by omega
  rw [hl] at HALL
  clear h h' hf hq hK g1 gq hV hE hl hql
  have hb0 : Below w.heap.size w w := Below.refl _ _
  go_enter Tryz.func49, Tryz.ntmps49
  obtain ⟨w1, hw1⟩ : ∃ W, W = w.alloc (.cells #[.slice ub un uc] 34) := ⟨_, rfl⟩
  have z1 : Below w.heap.size w w1 := by rw [hw1]; exact (Below.refl _ _).alloc (Nat.le_refl _) _
  have s1 : w1.heap.size = w.heap.size + 1 := by rw [hw1]; simp
  have hb1 := on hb0 z1
  have b_0 : w1.cell? ⟨w.heap.size, 0, none⟩ = some (.slice ub un uc) := by rw [hw1]; exact box_cell (Below.refl _ _) rfl
  have raw1_b_0 := b_0
  rw [hw1] at raw1_b_0
  obtain ⟨w2, hw2⟩ : ∃ W, W = w1.alloc (.cells #[.int .i64 (n : Int), .slice qb qn qc] 38) := ⟨_, rfl⟩
  have z2 : Below w1.heap.size w1 w2 := by rw [hw2]; exact (Below.refl _ _).alloc (Nat.le_refl _) _
  have s2 : w2.heap.size = w1.heap.size + 1 := by rw [hw2]; simp
  have hb2 := on hb1 z2
  replace b_0 := (z2.cell (p := ⟨w.heap.size, 0, none⟩) (by simp only []; omega)).trans b_0
  have e2 : w1.heap.size = w.heap.size + 1 := by omega
  have q_0 : w2.cell? ⟨w1.heap.size, 0, none⟩ = some (.int .i64 (n : Int)) := by rw [hw2]; exact box_cell (Below.refl _ _) rfl
  have q_1 : w2.cell? ⟨w1.heap.size, 1, none⟩ = some (.slice qb qn qc) := by rw [hw2]; exact box_cell (Below.refl _ _) rfl
  rw [e2] at q_0 q_1
  have raw2_b_0 := b_0
  have raw2_q_0 := q_0
  have raw2_q_1 := q_1
  rw [hw2, hw1] at raw2_b_0 raw2_q_0 raw2_q_1
  obtain ⟨w3, hw3⟩ : ∃ W, W = w2.alloc (.cells #[.slice none 0 0, .slice none 0 0] 49) := ⟨_, rfl⟩
  have z3 : Below w2.heap.size w2 w3 := by rw [hw3]; exact (Below.refl _ _).alloc (Nat.le_refl _) _
  have s3 : w3.heap.size = w2.heap.size + 1 := by rw [hw3]; simp
  have hb3 := on hb2 z3
  replace b_0 := (z3.cell (p := ⟨w.heap.size, 0, none⟩) (by simp only []; omega)).trans b_0
  replace q_0 := (z3.cell (p := ⟨w.heap.size + 1, 0, none⟩) (by simp only []; omega)).trans q_0
  replace q_1 := (z3.cell (p := ⟨w.heap.size + 1, 1, none⟩) (by simp only []; omega)).trans q_1
  have e3 : w2.heap.size = w.heap.size + 1 + 1 := by omega
  have r_0 : w3.cell? ⟨w2.heap.size, 0, none⟩ = some (.slice none 0 0) := by rw [hw3]; exact box_cell (Below.refl _ _) rfl
  have r_1 : w3.cell? ⟨w2.heap.size, 1, none⟩ = some (.slice none 0 0) := by rw [hw3]; exact box_cell (Below.refl _ _) rfl
  rw [e3] at r_0 r_1
  have r_f0 : w3.frozen? ⟨w2.heap.size, 0, none⟩ = false := by rw [hw3]; exact box_frozen (Below.refl _ _)
  have r_f1 : w3.frozen? ⟨w2.heap.size, 1, none⟩ = false := by rw [hw3]; exact box_frozen (Below.refl _ _)
  rw [e3] at r_f0 r_f1
  have raw3_b_0 := b_0
  have raw3_q_0 := q_0
  have raw3_q_1 := q_1
  have raw3_r_0 := r_0
  have raw3_r_1 := r_1
  rw [hw3, hw2, hw1] at raw3_b_0 raw3_q_0 raw3_q_1 raw3_r_0 raw3_r_1
  go_wp2_with fail
  rw [← hw1]
  rw [← hw2]
  rw [← hw3]
  clear hw3 hw2 hw1
  clear raw1_b_0 raw2_b_0 raw2_q_0 raw2_q_1 raw3_b_0 raw3_q_0 raw3_q_1 raw3_r_0 raw3_r_1
  refine (HVA.out _ hb3).mono ?_
  rintro e w4 ⟨u4, rfl, ov, z4⟩
  obtain ⟨vb, vn, vc, rfl⟩ := oI_form1 ov
  have s4 := z4.size
  have hb4 := on hb3 z4
  replace b_0 := (z4.cell (p := ⟨w.heap.size, 0, none⟩) (by simp only []; omega)).trans b_0
  replace q_0 := (z4.cell (p := ⟨w.heap.size + 1, 0, none⟩) (by simp only []; omega)).trans q_0
  replace q_1 := (z4.cell (p := ⟨w.heap.size + 1, 1, none⟩) (by simp only []; omega)).trans q_1
  replace r_0 := (z4.cell (p := ⟨w.heap.size + 1 + 1, 0, none⟩) (by simp only []; omega)).trans r_0
  replace r_1 := (z4.cell (p := ⟨w.heap.size + 1 + 1, 1, none⟩) (by simp only []; omega)).trans r_1
  replace r_f0 := (z4.frozen (p := ⟨w.heap.size + 1 + 1, 0, none⟩) (by simp only []; omega)).trans r_f0
  replace r_f1 := (z4.frozen (p := ⟨w.heap.size + 1 + 1, 1, none⟩) (by simp only []; omega)).trans r_f1
  obtain ⟨w5, hw5⟩ : ∃ W, W = w4.alloc (.cells #[.int .i64 (-1)] 3) := ⟨_, rfl⟩
  have z5 : Below w4.heap.size w4 w5 := by rw [hw5]; exact (Below.refl _ _).alloc (Nat.le_refl _) _
  have s5 : w5.heap.size = w4.heap.size + 1 := by rw [hw5]; simp
  have hb5 := on hb4 z5
  have old5_b_0 := b_0
  have old5_q_0 := q_0
  have old5_q_1 := q_1
  have old5_r_0 := r_0
  have old5_r_1 := r_1
  replace b_0 := (z5.cell (p := ⟨w.heap.size, 0, none⟩) (by simp only []; omega)).trans b_0
  replace q_0 := (z5.cell (p := ⟨w.heap.size + 1, 0, none⟩) (by simp only []; omega)).trans q_0
  replace q_1 := (z5.cell (p := ⟨w.heap.size + 1, 1, none⟩) (by simp only []; omega)).trans q_1
  replace r_0 := (z5.cell (p := ⟨w.heap.size + 1 + 1, 0, none⟩) (by simp only []; omega)).trans r_0
  replace r_1 := (z5.cell (p := ⟨w.heap.size + 1 + 1, 1, none⟩) (by simp only []; omega)).trans r_1
  replace r_f0 := (z5.frozen (p := ⟨w.heap.size + 1 + 1, 0, none⟩) (by simp only []; omega)).trans r_f0
  replace r_f1 := (z5.frozen (p := ⟨w.heap.size + 1 + 1, 1, none⟩) (by simp only []; omega)).trans r_f1
  replace ov := ov.below z5 (by omega)
  have m_0 : w5.cell? ⟨w4.heap.size, 0, none⟩ = some (.int .i64 (-1)) := by rw [hw5]; exact box_cell (Below.refl _ _) rfl
  have raw5_b_0 := b_0
  have raw5_q_0 := q_0
  have raw5_q_1 := q_1
  have raw5_r_0 := r_0
  have raw5_r_1 := r_1
  have raw5_m_0 := m_0
  rw [hw5] at raw5_b_0 raw5_q_0 raw5_q_1 raw5_r_0 raw5_r_1 raw5_m_0
  go_wp2_with fail
  rw [← hw5]
  clear hw5
  clear old5_b_0 old5_q_0 old5_q_1 old5_r_0 old5_r_1 raw5_b_0 raw5_q_0 raw5_q_1 raw5_r_0 raw5_r_1 raw5_m_0
  refine (repeat_any _ n (-1) _ hn1 hn4 ⟨by omega, by omega⟩ m_0).mono ?_
  rintro e w5 ⟨xb, xn, xc, rfl, ox, z5⟩
  have s6 := z5.size
  have hb6 := on hb5 z5
  replace b_0 := (z5.cell (p := ⟨w.heap.size, 0, none⟩) (by simp only []; omega)).trans b_0
  replace q_0 := (z5.cell (p := ⟨w.heap.size + 1, 0, none⟩) (by simp only []; omega)).trans q_0
  replace q_1 := (z5.cell (p := ⟨w.heap.size + 1, 1, none⟩) (by simp only []; omega)).trans q_1
  replace r_0 := (z5.cell (p := ⟨w.heap.size + 1 + 1, 0, none⟩) (by simp only []; omega)).trans r_0
  replace r_1 := (z5.cell (p := ⟨w.heap.size + 1 + 1, 1, none⟩) (by simp only []; omega)).trans r_1
  replace r_f0 := (z5.frozen (p := ⟨w.heap.size + 1 + 1, 0, none⟩) (by simp only []; omega)).trans r_f0
  replace r_f1 := (z5.frozen (p := ⟨w.heap.size + 1 + 1, 1, none⟩) (by simp only []; omega)).trans r_f1
  replace ov := ov.below z5 (by omega)
  replace m_0 := (z5.cell (p := ⟨w4.heap.size, 0, none⟩) (by simp only []; omega)).trans m_0
  clear m_0
  have hlw5 : w4.heap.size ≤ w5.heap.size := by omega
  obtain ⟨w7, hw7⟩ : ∃ W, W = w5.alloc (.cells #[.slice xb xn xc] 30) := ⟨_, rfl⟩
  have z7 : Below w5.heap.size w5 w7 := by rw [hw7]; exact (Below.refl _ _).alloc (Nat.le_refl _) _
  have s7 : w7.heap.size = w5.heap.size + 1 := by rw [hw7]; simp
  have hb7 := on hb6 z7
  have old7_b_0 := b_0
  have old7_q_0 := q_0
  have old7_q_1 := q_1
  have old7_r_0 := r_0
  have old7_r_1 := r_1
  replace b_0 := (z7.cell (p := ⟨w.heap.size, 0, none⟩) (by simp only []; omega)).trans b_0
  replace q_0 := (z7.cell (p := ⟨w.heap.size + 1, 0, none⟩) (by simp only []; omega)).trans q_0
  replace q_1 := (z7.cell (p := ⟨w.heap.size + 1, 1, none⟩) (by simp only []; omega)).trans q_1
  replace r_0 := (z7.cell (p := ⟨w.heap.size + 1 + 1, 0, none⟩) (by simp only []; omega)).trans r_0
  replace r_1 := (z7.cell (p := ⟨w.heap.size + 1 + 1, 1, none⟩) (by simp only []; omega)).trans r_1
  replace r_f0 := (z7.frozen (p := ⟨w.heap.size + 1 + 1, 0, none⟩) (by simp only []; omega)).trans r_f0
  replace r_f1 := (z7.frozen (p := ⟨w.heap.size + 1 + 1, 1, none⟩) (by simp only []; omega)).trans r_f1
  replace ov := ov.below z7 (by omega)
  have l_0 : w7.cell? ⟨w5.heap.size, 0, none⟩ = some (.slice xb xn xc) := by rw [hw7]; exact box_cell (Below.refl _ _) rfl
  have raw7_b_0 := b_0
  have raw7_q_0 := q_0
  have raw7_q_1 := q_1
  have raw7_r_0 := r_0
  have raw7_r_1 := r_1
  have raw7_l_0 := l_0
  rw [hw7] at raw7_b_0 raw7_q_0 raw7_q_1 raw7_r_0 raw7_r_1 raw7_l_0
  have olist : Own oII w4.heap.size w7.heap.size w7 [.slice (some ⟨w5.heap.size, 0, none⟩) 1 1] [List.replicate n (-1)] := by
    rw [show w7 = w5.alloc (.cells #[.slice xb xn xc] 30) from by assumption]
    exact own_oneII (ox.mono (by omega) (Nat.le_refl _)) (Nat.le_refl _) hlw5
  clear ox
  clear l_0
  go_wp2_with fail
  rw [← hw7]
  clear hw7
  clear old7_b_0 old7_q_0 old7_q_1 old7_r_0 old7_r_1 raw7_b_0 raw7_q_0 raw7_q_1 raw7_r_0 raw7_r_1 raw7_l_0
  have hJ0 : joinAll n (raTo db xs K 0) = [List.replicate n (-1)] := rfl
  go_loopw [8, 38] (fun v k wr => ∃ (j : Nat) (lb : Option Addr) (ln lc : Nat), j ≤ qn ∧ k = .int .i64 j ∧ v = .slice lb ln lc ∧ Own oII w4.heap.size wr.heap.size wr [.slice lb ln lc] (joinAll n (raTo db xs K j)) ∧ Below w7.heap.size w7 wr) (fun _ k _ => qn - (intOf k).toNat)
  case atStart => exact ⟨0, _, _, _, Nat.zero_le _, rfl, rfl, by rw [hJ0]; exact olist, Below.refl _ _⟩
  case round =>
    obtain ⟨j, lb, ln, lc, hj, rfl, rfl, oL, hlc⟩ := hrel
    clear olist hJ0
    have hdr := hlc
    have s8 := hdr.size
    have hb8 := on hb7 hdr
    replace b_0 := (hdr.cell (p := ⟨w.heap.size, 0, none⟩) (by simp only []; omega)).trans b_0
    replace q_0 := (hdr.cell (p := ⟨w.heap.size + 1, 0, none⟩) (by simp only []; omega)).trans q_0
    replace q_1 := (hdr.cell (p := ⟨w.heap.size + 1, 1, none⟩) (by simp only []; omega)).trans q_1
    replace r_0 := (hdr.cell (p := ⟨w.heap.size + 1 + 1, 0, none⟩) (by simp only []; omega)).trans r_0
    replace r_1 := (hdr.cell (p := ⟨w.heap.size + 1 + 1, 1, none⟩) (by simp only []; omega)).trans r_1
    replace r_f0 := (hdr.frozen (p := ⟨w.heap.size + 1 + 1, 0, none⟩) (by simp only []; omega)).trans r_f0
    replace r_f1 := (hdr.frozen (p := ⟨w.heap.size + 1 + 1, 1, none⟩) (by simp only []; omega)).trans r_f1
    replace ov := ov.below hdr (by omega)
    obtain ⟨wl, rfl⟩ : ∃ W, W = wr := ⟨_, rfl⟩
    have hT1 : Below wl.heap.size wl wl := Below.refl _ _
    obtain ⟨hjl, hjr⟩ := HJF.out j (by omega)
    obtain ⟨l, hl9⟩ : ∃ l, joinAll n (raTo db xs K j) = l := ⟨_, rfl⟩
    rw [hl9] at oL hjl hjr
    have HL9 := Lib.hid hl9
    have t1 := rS_sl (oL.rd reads_II)
    have hln := t1.len
    have hlns := t1.small
    clear hl9
    by_cases hlt : j < qn
    · obtain ⟨b1, o1, cs, a, rfl, hx, hr, hc⟩ := t0.at hlt
      obtain ⟨m1, vs⟩ := a
      obtain ⟨ab, an, ac, rfl, hs, gv⟩ := rA_open hr
      have iv := rI_ints gv
      have hvl := iv.len
      have hms := List.mem_of_getElem? hx.out
      have hfa := HFA.out _ hms
      have hft := HFT.out _ hms
      have hv3 := HVL.out _ hms
      have HX := Lib.hid hx.out
      have e_lt : b1 < w.heap.size := cell_lt (hc 0 _ rfl)
      have e_0 : wl.cell? ⟨b1, o1 + j * 2, none⟩ = some (.string m1) := (hb8.cell (p := ⟨b1, o1 + j * 2, none⟩) e_lt).trans (by have h9 := hc 0 _ rfl; rw [← Nat.add_assoc] at h9; exact h9)
      have e_1 : wl.cell? ⟨b1, o1 + j * 2 + 1, none⟩ = some (.slice ab an ac) := (hb8.cell (p := ⟨b1, o1 + j * 2 + 1, none⟩) e_lt).trans (by have h9 := hc 1 _ rfl; rw [← Nat.add_assoc] at h9; exact h9)
      have hbt := bit_test0 K j (by omega)
      obtain ⟨bb, hbb⟩ : ∃ bb, bitAt K j = bb := ⟨_, rfl⟩
      rw [hbb] at hbt
      have HBB := Lib.hid hbb
      obtain ⟨w9, hw9⟩ : ∃ W, W = wl.alloc (.cells #[.string m1, .slice ab an ac] 69) := ⟨_, rfl⟩
      have z9 : Below wl.heap.size wl w9 := by rw [hw9]; exact (Below.refl _ _).alloc (Nat.le_refl _) _
      have s9 : w9.heap.size = wl.heap.size + 1 := by rw [hw9]; simp
      have hb9 := on hb8 z9
      have old9_b_0 := b_0
      have old9_q_0 := q_0
      have old9_q_1 := q_1
      have old9_r_0 := r_0
      have old9_r_1 := r_1
      have old9_e_0 := e_0
      have old9_e_1 := e_1
      replace b_0 := (z9.cell (p := ⟨w.heap.size, 0, none⟩) (by simp only []; omega)).trans b_0
      replace q_0 := (z9.cell (p := ⟨w.heap.size + 1, 0, none⟩) (by simp only []; omega)).trans q_0
      replace q_1 := (z9.cell (p := ⟨w.heap.size + 1, 1, none⟩) (by simp only []; omega)).trans q_1
      replace r_0 := (z9.cell (p := ⟨w.heap.size + 1 + 1, 0, none⟩) (by simp only []; omega)).trans r_0
      replace r_1 := (z9.cell (p := ⟨w.heap.size + 1 + 1, 1, none⟩) (by simp only []; omega)).trans r_1
      replace r_f0 := (z9.frozen (p := ⟨w.heap.size + 1 + 1, 0, none⟩) (by simp only []; omega)).trans r_f0
      replace r_f1 := (z9.frozen (p := ⟨w.heap.size + 1 + 1, 1, none⟩) (by simp only []; omega)).trans r_f1
      replace ov := ov.below z9 (by omega)
      replace hlc := on hlc z9
      replace hT1 := on hT1 z9
      replace oL := oL.below z9 (by omega)
      replace e_0 := (z9.cell (p := ⟨b1, o1 + j * 2, none⟩) (by simp only []; omega)).trans e_0
      replace e_1 := (z9.cell (p := ⟨b1, o1 + j * 2 + 1, none⟩) (by simp only []; omega)).trans e_1
      have a_0 : w9.cell? ⟨wl.heap.size, 0, none⟩ = some (.string m1) := by rw [hw9]; exact box_cell (Below.refl _ _) rfl
      have a_1 : w9.cell? ⟨wl.heap.size, 1, none⟩ = some (.slice ab an ac) := by rw [hw9]; exact box_cell (Below.refl _ _) rfl
      have raw9_b_0 := b_0
      have raw9_q_0 := q_0
      have raw9_q_1 := q_1
      have raw9_r_0 := r_0
      have raw9_r_1 := r_1
      have raw9_e_0 := e_0
      have raw9_e_1 := e_1
      have raw9_a_0 := a_0
      have raw9_a_1 := a_1
      rw [hw9] at raw9_b_0 raw9_q_0 raw9_q_1 raw9_r_0 raw9_r_1 raw9_e_0 raw9_e_1 raw9_a_0 raw9_a_1
      have hj64 : (j : Int) < 64 := by omega
      simp only at hs gv hfa hft hv3 hvl
      clear hc hx hr gv hbb hms
      cases bb with
      | false =>
        have HN : Hid (joinAll n (raTo db xs K (j + 1)) = l) := Lib.hid (by rw [raTo_no HBB.out, HL9.out])
        go_wp2_with fail
        rw [← hw9]
        clear hw9
        clear old9_b_0 old9_q_0 old9_q_1 old9_r_0 old9_r_1 old9_e_0 old9_e_1 raw9_b_0 raw9_q_0 raw9_q_1 raw9_r_0 raw9_r_1 raw9_e_0 raw9_e_1 raw9_a_0 raw9_a_1
        have HO := Lib.hid oL
        clear oL
        go_roundw
        case rel => exact ⟨j + 1, lb, ln, lc, by omega, by go_num, rfl, by rw [HN.out]; exact HO.out.mono (Nat.le_refl _) (by omega), hlc⟩
        case measure => simp [intOf]; omega
      | true =>
        have HN : Hid (joinAll n (raTo db xs K (j + 1)) = joinL ((lookT (look db m1)).2.2, vs) l) := Lib.hid (by rw [raTo_yes HX.out HBB.out, joinAll_snoc, HL9.out])
        have hc1 := fun W (hW : Below w.heap.size w W) => HCK.out m1 W hW
        obtain ⟨t, ht⟩ : ∃ t, lookT (look db m1) = t := ⟨_, rfl⟩
        obtain ⟨so, hso⟩ : ∃ so, (look db m1).isSome = so := ⟨_, rfl⟩
        simp only [ht, hso] at hc1
        rw [ht] at hfa hft HN
        have hrl := hft.len
        have HROW := Lib.hid hfa.row
        have HPLACE := Lib.hid (fun k (hk : k < vs.length) => hfa.place hk)
        obtain ⟨ns, A, r1⟩ := t
        simp only at hrl HROW HPLACE HN
        have HC1 := Lib.hid hc1
        clear hc1 ht hso hfa hft
        go_wp2_with fail
        rw [← hw9]
        clear hw9
        clear old9_b_0 old9_q_0 old9_q_1 old9_r_0 old9_r_1 old9_e_0 old9_e_1 raw9_b_0 raw9_q_0 raw9_q_1 raw9_r_0 raw9_r_1 raw9_e_0 raw9_e_1 raw9_a_0 raw9_a_1
        refine (HC1.out _ hb9).mono ?_
        rintro e wt ⟨tb, tn, tc, rfl, oT9, zt⟩
        have s10 := zt.size
        have hb10 := on hb9 zt
        replace b_0 := (zt.cell (p := ⟨w.heap.size, 0, none⟩) (by simp only []; omega)).trans b_0
        replace q_0 := (zt.cell (p := ⟨w.heap.size + 1, 0, none⟩) (by simp only []; omega)).trans q_0
        replace q_1 := (zt.cell (p := ⟨w.heap.size + 1, 1, none⟩) (by simp only []; omega)).trans q_1
        replace r_0 := (zt.cell (p := ⟨w.heap.size + 1 + 1, 0, none⟩) (by simp only []; omega)).trans r_0
        replace r_1 := (zt.cell (p := ⟨w.heap.size + 1 + 1, 1, none⟩) (by simp only []; omega)).trans r_1
        replace r_f0 := (zt.frozen (p := ⟨w.heap.size + 1 + 1, 0, none⟩) (by simp only []; omega)).trans r_f0
        replace r_f1 := (zt.frozen (p := ⟨w.heap.size + 1 + 1, 1, none⟩) (by simp only []; omega)).trans r_f1
        replace ov := ov.below zt (by omega)
        replace hlc := on hlc zt
        replace hT1 := on hT1 zt
        replace oL := oL.below zt (by omega)
        replace e_0 := (zt.cell (p := ⟨b1, o1 + j * 2, none⟩) (by simp only []; omega)).trans e_0
        replace e_1 := (zt.cell (p := ⟨b1, o1 + j * 2 + 1, none⟩) (by simp only []; omega)).trans e_1
        replace a_0 := (zt.cell (p := ⟨wl.heap.size, 0, none⟩) (by simp only []; omega)).trans a_0
        replace a_1 := (zt.cell (p := ⟨wl.heap.size, 1, none⟩) (by simp only []; omega)).trans a_1
        have t2 := ownT_rows9 oT9
        have htl := t2.len
        have htn8 : tn ≤ 8 := by omega
        obtain ⟨w11, hw11⟩ : ∃ W, W = wt.alloc (.cells #[.string ns, .int .i64 A, .slice tb tn tc] 65) := ⟨_, rfl⟩
        have z11 : Below wt.heap.size wt w11 := by rw [hw11]; exact (Below.refl _ _).alloc (Nat.le_refl _) _
        have s11 : w11.heap.size = wt.heap.size + 1 := by rw [hw11]; simp
        have hb11 := on hb10 z11
        have old11_b_0 := b_0
        have old11_q_0 := q_0
        have old11_q_1 := q_1
        have old11_r_0 := r_0
        have old11_r_1 := r_1
        have old11_e_0 := e_0
        have old11_e_1 := e_1
        have old11_a_0 := a_0
        have old11_a_1 := a_1
        replace b_0 := (z11.cell (p := ⟨w.heap.size, 0, none⟩) (by simp only []; omega)).trans b_0
        replace q_0 := (z11.cell (p := ⟨w.heap.size + 1, 0, none⟩) (by simp only []; omega)).trans q_0
        replace q_1 := (z11.cell (p := ⟨w.heap.size + 1, 1, none⟩) (by simp only []; omega)).trans q_1
        replace r_0 := (z11.cell (p := ⟨w.heap.size + 1 + 1, 0, none⟩) (by simp only []; omega)).trans r_0
        replace r_1 := (z11.cell (p := ⟨w.heap.size + 1 + 1, 1, none⟩) (by simp only []; omega)).trans r_1
        replace r_f0 := (z11.frozen (p := ⟨w.heap.size + 1 + 1, 0, none⟩) (by simp only []; omega)).trans r_f0
        replace r_f1 := (z11.frozen (p := ⟨w.heap.size + 1 + 1, 1, none⟩) (by simp only []; omega)).trans r_f1
        replace ov := ov.below z11 (by omega)
        replace hlc := on hlc z11
        replace hT1 := on hT1 z11
        replace oL := oL.below z11 (by omega)
        replace e_0 := (z11.cell (p := ⟨b1, o1 + j * 2, none⟩) (by simp only []; omega)).trans e_0
        replace e_1 := (z11.cell (p := ⟨b1, o1 + j * 2 + 1, none⟩) (by simp only []; omega)).trans e_1
        replace a_0 := (z11.cell (p := ⟨wl.heap.size, 0, none⟩) (by simp only []; omega)).trans a_0
        replace a_1 := (z11.cell (p := ⟨wl.heap.size, 1, none⟩) (by simp only []; omega)).trans a_1
        have t_0 : w11.cell? ⟨wt.heap.size, 0, none⟩ = some (.string ns) := by rw [hw11]; exact box_cell (Below.refl _ _) rfl
        have t_1 : w11.cell? ⟨wt.heap.size, 1, none⟩ = some (.int .i64 A) := by rw [hw11]; exact box_cell (Below.refl _ _) rfl
        have t_2 : w11.cell? ⟨wt.heap.size, 2, none⟩ = some (.slice tb tn tc) := by rw [hw11]; exact box_cell (Below.refl _ _) rfl
        have raw11_b_0 := b_0
        have raw11_q_0 := q_0
        have raw11_q_1 := q_1
        have raw11_r_0 := r_0
        have raw11_r_1 := r_1
        have raw11_e_0 := e_0
        have raw11_e_1 := e_1
        have raw11_a_0 := a_0
        have raw11_a_1 := a_1
        have raw11_t_0 := t_0
        have raw11_t_1 := t_1
        have raw11_t_2 := t_2
        rw [hw11] at raw11_b_0 raw11_q_0 raw11_q_1 raw11_r_0 raw11_r_1 raw11_e_0 raw11_e_1 raw11_a_0 raw11_a_1 raw11_t_0 raw11_t_1 raw11_t_2
        have hT2 : Below wt.heap.size wt w11 := by
          rw [show w11 = wt.alloc (.cells #[.string ns, .int .i64 A, .slice tb tn tc] 65) from by assumption]
          exact (Below.refl _ _).alloc (Nat.le_refl _) _
        clear oT9 HC1
        obtain ⟨w12, hw12⟩ : ∃ W, W = w11.alloc (.cells #[] 30) := ⟨_, rfl⟩
        have z12 : Below w11.heap.size w11 w12 := by rw [hw12]; exact (Below.refl _ _).alloc (Nat.le_refl _) _
        have s12 : w12.heap.size = w11.heap.size + 1 := by rw [hw12]; simp
        have hb12 := on hb11 z12
        replace b_0 := (z12.cell (p := ⟨w.heap.size, 0, none⟩) (by simp only []; omega)).trans b_0
        replace q_0 := (z12.cell (p := ⟨w.heap.size + 1, 0, none⟩) (by simp only []; omega)).trans q_0
        replace q_1 := (z12.cell (p := ⟨w.heap.size + 1, 1, none⟩) (by simp only []; omega)).trans q_1
        replace r_0 := (z12.cell (p := ⟨w.heap.size + 1 + 1, 0, none⟩) (by simp only []; omega)).trans r_0
        replace r_1 := (z12.cell (p := ⟨w.heap.size + 1 + 1, 1, none⟩) (by simp only []; omega)).trans r_1
        replace r_f0 := (z12.frozen (p := ⟨w.heap.size + 1 + 1, 0, none⟩) (by simp only []; omega)).trans r_f0
        replace r_f1 := (z12.frozen (p := ⟨w.heap.size + 1 + 1, 1, none⟩) (by simp only []; omega)).trans r_f1
        replace ov := ov.below z12 (by omega)
        replace hlc := on hlc z12
        replace hT1 := on hT1 z12
        replace oL := oL.below z12 (by omega)
        replace e_0 := (z12.cell (p := ⟨b1, o1 + j * 2, none⟩) (by simp only []; omega)).trans e_0
        replace e_1 := (z12.cell (p := ⟨b1, o1 + j * 2 + 1, none⟩) (by simp only []; omega)).trans e_1
        replace a_0 := (z12.cell (p := ⟨wl.heap.size, 0, none⟩) (by simp only []; omega)).trans a_0
        replace a_1 := (z12.cell (p := ⟨wl.heap.size, 1, none⟩) (by simp only []; omega)).trans a_1
        replace t_0 := (z12.cell (p := ⟨wt.heap.size, 0, none⟩) (by simp only []; omega)).trans t_0
        replace t_1 := (z12.cell (p := ⟨wt.heap.size, 1, none⟩) (by simp only []; omega)).trans t_1
        replace t_2 := (z12.cell (p := ⟨wt.heap.size, 2, none⟩) (by simp only []; omega)).trans t_2
        replace hT2 := on hT2 z12
        have hnx : ∀ S, Acc 30 oI w11.heap.size S w12.heap.size w12 (.slice (some ⟨wt.heap.size + 1, 0, none⟩) 0 0) [] := fun S => by rw [hw12]; exact Acc.empty (by omega) (by first | (simp; done) | (simp; omega))
        have raw12_b_0 := b_0
        have raw12_q_0 := q_0
        have raw12_q_1 := q_1
        have raw12_r_0 := r_0
        have raw12_r_1 := r_1
        have raw12_e_0 := e_0
        have raw12_e_1 := e_1
        have raw12_a_0 := a_0
        have raw12_a_1 := a_1
        have raw12_t_0 := t_0
        have raw12_t_1 := t_1
        have raw12_t_2 := t_2
        rw [hw12, hw11] at raw12_b_0 raw12_q_0 raw12_q_1 raw12_r_0 raw12_r_1 raw12_e_0 raw12_e_1 raw12_a_0 raw12_a_1 raw12_t_0 raw12_t_1 raw12_t_2
        go_wp2_with fail
        rw [← hw11]
        rw [← hw12]
        clear hw12 hw11
        clear old11_b_0 old11_q_0 old11_q_1 old11_r_0 old11_r_1 old11_e_0 old11_e_1 old11_a_0 old11_a_1 raw11_b_0 raw11_q_0 raw11_q_1 raw11_r_0 raw11_r_1 raw11_e_0 raw11_e_1 raw11_a_0 raw11_a_1 raw11_t_0 raw11_t_1 raw11_t_2 raw12_b_0 raw12_q_0 raw12_q_1 raw12_r_0 raw12_r_1 raw12_e_0 raw12_e_1 raw12_a_0 raw12_a_1 raw12_t_0 raw12_t_1 raw12_t_2
        have c_a_1 := a_1
        have c_hT1 := hT1
        have c_hT2 := hT2
        have hlc2 := hlc
        have hlW2 : w11.heap.size < w12.heap.size := by omega
        have htlo : wt.heap.size < w11.heap.size := by omega
        have hllo : wl.heap.size < w11.heap.size := by omega
        go_loopw [13, 58] (fun v k wr => ∃ i : Nat, i ≤ ln ∧ k = .int .i64 i ∧ Acc 30 oI w11.heap.size w12.heap.size wr.heap.size wr v (joinL (r1, vs) (l.take i)) ∧ Turn w11.heap.size (w11.heap.size + 1) w12 wr) (fun _ k _ => ln - (intOf k).toNat)
        case atStart => exact ⟨0, Nat.zero_le _, rfl, by rw [List.take_zero]; exact (hnx _).wide (Nat.le_refl _) (by omega), turn_refl _ _ _⟩
        case round =>
          obtain ⟨i, hi, rfl, hacc, hdr2⟩ := hrel
          have ht3 := hdr2
          clear hnx
          clear hT1 hT2 hlc
          have s13 := hdr2.size
          have hb13 := hb12.trans ((hdr2.below (by omega)).mono (by omega))
          replace b_0 := (hdr2.cell (p := ⟨w.heap.size, 0, none⟩) (by simp only []; omega) (by simp only []; omega)).trans b_0
          replace q_0 := (hdr2.cell (p := ⟨w.heap.size + 1, 0, none⟩) (by simp only []; omega) (by simp only []; omega)).trans q_0
          replace q_1 := (hdr2.cell (p := ⟨w.heap.size + 1, 1, none⟩) (by simp only []; omega) (by simp only []; omega)).trans q_1
          replace r_0 := (hdr2.cell (p := ⟨w.heap.size + 1 + 1, 0, none⟩) (by simp only []; omega) (by simp only []; omega)).trans r_0
          replace r_1 := (hdr2.cell (p := ⟨w.heap.size + 1 + 1, 1, none⟩) (by simp only []; omega) (by simp only []; omega)).trans r_1
          replace r_f0 := (World.frozen?_of_block (a := ⟨w.heap.size + 1 + 1, 0, none⟩) (hdr2.block _ (by simp only []; omega) (by simp only []; omega))).trans r_f0
          replace r_f1 := (World.frozen?_of_block (a := ⟨w.heap.size + 1 + 1, 1, none⟩) (hdr2.block _ (by simp only []; omega) (by simp only []; omega))).trans r_f1
          replace ov := ov.turn hdr2 (by omega)
          replace oL := oL.turn hdr2 (by omega)
          replace e_0 := (hdr2.cell (p := ⟨b1, o1 + j * 2, none⟩) (by simp only []; omega) (by simp only []; omega)).trans e_0
          replace e_1 := (hdr2.cell (p := ⟨b1, o1 + j * 2 + 1, none⟩) (by simp only []; omega) (by simp only []; omega)).trans e_1
          replace a_0 := (hdr2.cell (p := ⟨wl.heap.size, 0, none⟩) (by simp only []; omega) (by simp only []; omega)).trans a_0
          replace a_1 := (hdr2.cell (p := ⟨wl.heap.size, 1, none⟩) (by simp only []; omega) (by simp only []; omega)).trans a_1
          replace t_0 := (hdr2.cell (p := ⟨wt.heap.size, 0, none⟩) (by simp only []; omega) (by simp only []; omega)).trans t_0
          replace t_1 := (hdr2.cell (p := ⟨wt.heap.size, 1, none⟩) (by simp only []; omega) (by simp only []; omega)).trans t_1
          replace t_2 := (hdr2.cell (p := ⟨wt.heap.size, 2, none⟩) (by simp only []; omega) (by simp only []; omega)).trans t_2
          by_cases hlti : i < ln
          · obtain ⟨b5, o5, xb, xn, xc, y, rfl, hcy, hy, iy, hxc1, hxc2⟩ := t1.row hlti
            have hb5 : b5 < wl.heap.size := cell_lt hcy
            have hTo : Below wl.heap.size wl wr := c_hT1.trans ((ht3.below (by omega)).mono (by omega))
            have hyl : y.length = n := hjr y (List.mem_of_getElem? hy.out)
            have iyl := iy.len
            have c0 : wr.cell? ⟨b5, o5 + i, none⟩ = some (.slice xb xn xc) := (hTo.cell (p := ⟨b5, o5 + i, none⟩) hb5).trans hcy
            have HA2 := Lib.hid (joinL_at (p := (r1, vs)) hy.out)
            have hjl3 := joinL_len (r1, vs) (l.take i)
            have hti := List.length_take_le i l
            have hm8 : (l.take i).length * r1.length ≤ 4096 * 8 := Nat.mul_le_mul (by omega) (by omega)
            simp only at hjl3
            clear hcy hy hTo
            go_wp2_with fail
            go_loopw [13, 65] (fun v k wr => ∃ m : Nat, m ≤ tn ∧ k = .int .i64 m ∧ Acc 30 oI w11.heap.size w12.heap.size wr.heap.size wr v (joinL (r1, vs) (l.take i) ++ joinRows vs y (r1.take m)) ∧ Turn w11.heap.size (w11.heap.size + 1) w12 wr) (fun _ k _ => tn - (intOf k).toNat)
            case atStart => exact ⟨0, Nat.zero_le _, rfl, by rw [List.take_zero, show joinRows vs y [] = [] from rfl, List.append_nil]; exact hacc, ht3⟩
            case round =>
              obtain ⟨m, hm, rfl, hacc3, ht4⟩ := hrel
              clear hacc ov oL
              clear b_0 q_0 q_1 r_0 r_1 r_f0 r_f1 e_0 e_1 a_0 a_1 t_0 t_1 t_2 c0
              have hbm : Below w.heap.size w wr := (hb12).trans ((ht4.below (by omega)).mono (by omega))
              have h4s := ht4.size
              obtain ⟨wm, rfl⟩ : ∃ W, W = wr := ⟨_, rfl⟩
              obtain ⟨va, vn', vc', rfl⟩ := hacc3.form3
              have a_1 : wm.cell? ⟨wl.heap.size, 1, none⟩ = some (.slice ab an ac) := (ht4.cell (p := ⟨wl.heap.size, 1, none⟩) (by simp only []; omega) (by simp only []; omega)).trans c_a_1
              have hTm : Below wl.heap.size wl wm := c_hT1.trans ((ht4.below (by omega)).mono (by omega))
              have hTm2 : Below wt.heap.size wt wm := c_hT2.trans ((ht4.below (by omega)).mono (by omega))
              have hjr3 := joinRows_len vs y (r1.take m)
              have htm := List.length_take_le m r1
              by_cases hltm : m < tn
              · obtain ⟨b6, o6, yb, yn, yc, r, rfl, hcr, hr, ir, _⟩ := t2.row hltm
                have hb6 : b6 < wt.heap.size := cell_lt hcr
                have r0 : wm.cell? ⟨b6, o6 + m, none⟩ = some (.slice yb yn yc) := (hTm2.cell (p := ⟨b6, o6 + m, none⟩) hb6).trans hcr
                have hrl9 := (HROW.out r (List.mem_of_getElem? hr.out)).1
                have irl := ir.len
                have HRA := Lib.hid (joinRows_at (av := vs) (x := y) hr.out)
                have iym := iy.below hTm
                clear hcr hr
                go_wp2_with fail
                refine (copyInts_any (.slice xb xn xc) y _ (rS_mk iym.sl hxc1 hxc2) (by omega)).mono ?_
                rintro e w8 ⟨ux, rfl, ox, z8⟩
                obtain ⟨gx, cpx, rfl, ow, hgl, hgh, hgs⟩ := own_row ox hyl (by omega)
                have hacc8 := hacc3.below z8 (Nat.le_refl _)
                have ht8 := ht4.trans (turn_below z8 (by omega))
                have hT8 := on hTm2 z8
                have s14 := z8.size
                have hb14 := on hbm z8
                replace a_1 := (z8.cell (p := ⟨wl.heap.size, 1, none⟩) (by simp only []; omega)).trans a_1
                replace r0 := (z8.cell (p := ⟨b6, o6 + m, none⟩) (by simp only []; omega)).trans r0
                clear ox hacc3 iym
                go_wp2_with fail
                go_loopw [19, 74] (fun s k wr => ∃ (q : Nat) (b : Bool), q ≤ an ∧ k = .int .i64 q ∧ s = .bool b ∧ Hid (b = fillOk vs r q y) ∧ OwnInts wm.heap.size wr (.slice (some ⟨gx, 0, none⟩) n cpx) n (fillX vs r q y) ∧ Turn gx (gx + 1) w8 wr) (fun _ k _ => an - (intOf k).toNat)
                case atStart => exact ⟨0, true, Nat.zero_le _, rfl, rfl, rfl, ow, turn_refl _ _ _⟩
                case round =>
                  obtain ⟨q, b, hqn, rfl, rfl, hB, how, ht5⟩ := hrel
                  have hgt := ht5
                  clear ow
                  have s15 := ht5.size
                  have hb15 := hb14.trans ((ht5.below (by omega)).mono (by omega))
                  replace a_1 := (ht5.cell (p := ⟨wl.heap.size, 1, none⟩) (by simp only []; omega) (by simp only []; omega)).trans a_1
                  replace r0 := (ht5.cell (p := ⟨b6, o6 + m, none⟩) (by simp only []; omega) (by simp only []; omega)).trans r0
                  by_cases hltq : q < an
                  · obtain ⟨cv, hcv, hcn⟩ := HPLACE.out q (by omega)
                    obtain ⟨b7, o7, u, rfl, hcu, hu, hu1, hu2⟩ := iv.get hltq
                    obtain rfl : u = (cv : Int) := by rw [← hu.out, hcv]
                    have hb7 : b7 < w.heap.size := cell_lt hcu
                    have u0 : wr.cell? ⟨b7, o7 + q, none⟩ = some (.int .i64 (cv : Int)) := ((hb15).cell (p := ⟨b7, o7 + q, none⟩) hb7).trans hcu
                    obtain ⟨b8, o8, zv, rfl, hcz, hz, hz1, hz2⟩ := ir.get (show q < yn by omega)
                    have hb8 : b8 < wt.heap.size := cell_lt hcz
                    have z0 : wr.cell? ⟨b8, o8 + q, none⟩ = some (.int .i64 zv) := ((hT8.trans ((hgt.below (by omega)).mono (by omega))).cell (p := ⟨b8, o8 + q, none⟩) hb8).trans hcz
                    obtain ⟨g0, gf0⟩ := how.cellAt hcn
                    obtain ⟨g, hg⟩ : ∃ g, (fillX vs r q y).getD cv 0 = g := ⟨_, rfl⟩
                    rw [hg] at g0
                    have HNB : Hid (fillOk vs r (q + 1) y = (b && (decide (g = -1) || decide (g = zv)))) := Lib.hid (by rw [fillOk, ← hB.out, fillAt, hcv, hz.out, Int.toNat_natCast, hg])
                    have HNX : Hid (fillX vs r (q + 1) y = (fillX vs r q y).set cv zv) := Lib.hid (by rw [fillX, hcv, hz.out, Int.toNat_natCast])
                    have HOW := Lib.hid (fun m9 => (how.turnIn m9).put hcn (show I64 zv from ⟨hz1, hz2⟩))
                    have HTT := Lib.hid (fun m9 => (hgt.trans (turn_below (Drew.below ⟨m9, rfl⟩ wr.heap.size) (Nat.le_refl _)) : Turn gx (gx + 1) w8 (wr.drewN m9)).setIn (p := ⟨gx, cv, none⟩) (Nat.le_refl _) (Nat.lt_succ_self _) (.int .i64 zv))
                    have hcvn : (cv : Int) < (n : Int) := by omega
                    have hqyn : (q : Int) < (yn : Int) := by omega
                    clear hcu hu hcv hcz hz how hB hg hgt ht5
                    cases b with
                    | false =>
                      have HN : Hid (false = fillOk vs r (q + 1) y) := Lib.hid (by rw [HNB.out]; rfl)
                      clear HNB
                      go_wp2_with fail
                      go_quiet (fail)
                      go_wp2_with fail
                      go_roundw
                      case rel => exact ⟨q + 1, false, by omega, by go_num, rfl, HN.out, by rw [HNX.out]; exact HOW.out _, HTT.out _⟩
                      case measure => simp [intOf]; omega
                    | true =>
                      by_cases hg1 : g = -1
                      · have HN : Hid (true = fillOk vs r (q + 1) y) := Lib.hid (by rw [HNB.out, decide_eq_true hg1]; rfl)
                        have d1 : (g == -1) = true := by rw [beq_iff_eq]; exact hg1
                        clear HNB hg1
                        go_wp2_with fail
                        go_quiet (fail)
                        go_wp2_with fail
                        go_roundw
                        case rel => exact ⟨q + 1, true, by omega, by go_num, rfl, HN.out, by rw [HNX.out]; exact HOW.out _, HTT.out _⟩
                        case measure => simp [intOf]; omega
                      · have d1 : (g == -1) = false := by rw [beq_eq_false_iff_ne]; exact hg1
                        by_cases hgz : g = zv
                        · have HN : Hid (true = fillOk vs r (q + 1) y) := Lib.hid (by rw [HNB.out, decide_eq_true hgz, Bool.or_true]; rfl)
                          have d2 : (g == zv) = true := by rw [beq_iff_eq]; exact hgz
                          clear HNB hg1 hgz
                          go_wp2_with fail
                          go_quiet (fail)
                          go_wp2_with fail
                          go_roundw
                          case rel => exact ⟨q + 1, true, by omega, by go_num, rfl, HN.out, by rw [HNX.out]; exact HOW.out _, HTT.out _⟩
                          case measure => simp [intOf]; omega
                        · have HN : Hid (false = fillOk vs r (q + 1) y) := Lib.hid (by rw [HNB.out, decide_eq_false hg1, decide_eq_false hgz]; rfl)
                          have d2 : (g == zv) = false := by rw [beq_eq_false_iff_ne]; exact hgz
                          clear HNB hg1 hgz
                          go_wp2_with fail
                          go_quiet (fail)
                          go_wp2_with fail
                          go_roundw
                          case rel => exact ⟨q + 1, false, by omega, by go_num, rfl, HN.out, by rw [HNX.out]; exact HOW.out _, HTT.out _⟩
                          case measure => simp [intOf]; omega
                  · obtain rfl : an = q := by omega
                    have hacc9 := Acc.apart hacc8 hgt hgl (by omega)
                    have ht9 := Turn.apart ht8 hgt (by omega)
                    have h9s := hgt.size
                    have HLEN : (joinL (r1, vs) (l.take i) ++ joinRows vs y (r1.take m)).length ≤ 100000000 := by rw [List.length_append]; omega
                    cases b with
                    | false =>
                      have HR9 : Hid (joinRows vs y (r1.take (m + 1)) = joinRows vs y (r1.take m)) := Lib.hid (by rw [HRA.out, hvl, ← hB.out]; simp)
                      have HC9 := Lib.hid (hacc9.wide (Nat.le_refl _) (show wm.heap.size ≤ wr.heap.size by omega))
                      have HT9 := Lib.hid ht9
                      clear hacc8 hacc9 ht9 how hB
                      go_wp2_with fail
                      go_roundw
                      case rel => exact ⟨m + 1, by omega, by go_num, by rw [HR9.out]; exact HC9.out, HT9.out⟩
                      case measure => simp [intOf]; omega
                    | true =>
                      have HR9 : Hid (joinL (r1, vs) (l.take i) ++ joinRows vs y (r1.take (m + 1)) = (joinL (r1, vs) (l.take i) ++ joinRows vs y (r1.take m)) ++ [fillX vs r an y]) := Lib.hid (by rw [HRA.out, hvl, ← hB.out, List.append_assoc]; simp)
                      obtain ⟨v', wN, hrun, haccN, htN, hsN, _⟩ := run_acc Tryz.underlying47 infoI rfl (by decide) (by decide) rfl (lo := w11.heap.size) (W0 := w12) 47 _ _ [.slice (some ⟨gx, 0, none⟩) n cpx] (fillX vs r an y) hacc9 how.own (by intro z hz; simp at hz; subst hz; rfl) (by omega) (Nat.le_refl _) (by omega) (Nat.le_refl _) ht9 rfl (.inl rfl) (by omega) HLEN rfl
                      obtain ⟨va2, vn2, vc2, rfl⟩ := haccN.form3
                      have HC9 := Lib.hid haccN
                      have HT9 := Lib.hid htN
                      clear hacc8 hacc9 ht9 how hB haccN htN
                      go_wp2_with ((at_builtin; refine wpList_app_run hrun rfl rfl rfl rfl rfl ?_))
                      go_roundw
                      case rel => exact ⟨m + 1, by omega, by go_num, by rw [HR9.out]; exact HC9.out, HT9.out⟩
                      case measure => simp [intOf]; omega
              · obtain rfl : tn = m := by omega
                have HC3 : Hid (Acc 30 oI w11.heap.size w12.heap.size wm.heap.size wm (.slice va vn' vc') (joinL (r1, vs) (l.take (i + 1)))) := Lib.hid (by
                  rw [HA2.out]
                  rw [show r1.take tn = r1 from List.take_of_length_le (by omega)] at hacc3
                  exact hacc3)
                have HT3 := Lib.hid ht4
                clear hacc3 ht4
                go_wp2_with fail
                go_roundw
                case rel => exact ⟨i + 1, by omega, by go_num, HC3.out, HT3.out⟩
                case measure => simp [intOf]; omega
          · obtain rfl : ln = i := by omega
            obtain ⟨va, vn', vc', rfl⟩ := hacc.form3
            rw [List.take_of_length_le (by omega)] at hacc
            have HO : Hid (Own oII w4.heap.size wr.heap.size wr [.slice va vn' vc'] (joinAll n (raTo db xs K (j + 1)))) := Lib.hid (by rw [HN.out]; exact hacc.own (by omega) (by omega) (Nat.le_refl _))
            have HL := Lib.hid (hlc2.trans ((ht3.below (by omega)).mono (by omega)))
            clear hacc oL
            go_wp2_with fail
            go_roundw
            case rel => exact ⟨j + 1, va, vn', vc', by omega, by go_num, rfl, HO.out, HL.out⟩
            case measure => simp [intOf]; omega
    · obtain rfl : qn = j := by omega
      have HONE2 : Hid (canon (l.map (fun y => sel y V)) = E.2) := Lib.hid (by rw [← HL9.out, HALL.out]; exact HONE.out)
      have hselb : bulk_II (l.map (fun y => sel y V)) ≤ 100000000 := by
        have h1 : sumBy bulk_I (l.map (fun y => sel y V)) ≤ (l.map (fun y => sel y V)).length * 4 := sumBy_bound (fun r hr => by
          obtain ⟨y, _, rfl⟩ := List.mem_map.1 hr
          have := sel_len y V
          unfold bulk_I
          omega)
        rw [List.length_map] at h1
        unfold bulk_II
        rw [List.length_map]
        omega
      clear t0 HCK HJF HFA HFT HVL HONE HALL HL9 hjr
      clear b_0 q_0 q_1 hlc
      obtain ⟨w16, hw16⟩ : ∃ W, W = wl.alloc (.cells #[.slice vb vn vc, .slice none 0 0] 49) := ⟨_, rfl⟩
      have z16 : Below wl.heap.size wl w16 := by rw [hw16]; exact (Below.refl _ _).alloc (Nat.le_refl _) _
      have s16 : w16.heap.size = wl.heap.size + 1 := by rw [hw16]; simp
      have hb16 := on hb8 z16
      have old16_r_0 := r_0
      have old16_r_1 := r_1
      replace r_0 := (z16.cell (p := ⟨w.heap.size + 1 + 1, 0, none⟩) (by simp only []; omega)).trans r_0
      replace r_1 := (z16.cell (p := ⟨w.heap.size + 1 + 1, 1, none⟩) (by simp only []; omega)).trans r_1
      replace r_f0 := (z16.frozen (p := ⟨w.heap.size + 1 + 1, 0, none⟩) (by simp only []; omega)).trans r_f0
      replace r_f1 := (z16.frozen (p := ⟨w.heap.size + 1 + 1, 1, none⟩) (by simp only []; omega)).trans r_f1
      replace ov := ov.below z16 (by omega)
      replace hT1 := on hT1 z16
      replace oL := oL.below z16 (by omega)
      have o_0 : w16.cell? ⟨wl.heap.size, 0, none⟩ = some (.slice vb vn vc) := by rw [hw16]; exact box_cell (Below.refl _ _) rfl
      have o_1 : w16.cell? ⟨wl.heap.size, 1, none⟩ = some (.slice none 0 0) := by rw [hw16]; exact box_cell (Below.refl _ _) rfl
      have o_f0 : w16.frozen? ⟨wl.heap.size, 0, none⟩ = false := by rw [hw16]; exact box_frozen (Below.refl _ _)
      have o_f1 : w16.frozen? ⟨wl.heap.size, 1, none⟩ = false := by rw [hw16]; exact box_frozen (Below.refl _ _)
      have raw16_r_0 := r_0
      have raw16_r_1 := r_1
      have raw16_o_0 := o_0
      have raw16_o_1 := o_1
      rw [hw16] at raw16_r_0 raw16_r_1 raw16_o_0 raw16_o_1
      go_wp2_with fail
      rw [← hw16]
      clear hw16
      clear old16_r_0 old16_r_1 raw16_r_0 raw16_r_1 raw16_o_0 raw16_o_1
      have c_T := hT1
      go_loopw [119] (fun k wr => ∃ (i : Nat) (rb : Option Addr) (rn rc : Nat), i ≤ ln ∧ k = .int .i64 i ∧ (wr.cell? ⟨wl.heap.size, 0, none⟩ = some (.slice vb vn vc) ∧ wr.cell? ⟨wl.heap.size, 1, none⟩ = some (.slice rb rn rc) ∧ wr.frozen? ⟨wl.heap.size, 1, none⟩ = false) ∧ Acc 30 oI w16.heap.size w16.heap.size wr.heap.size wr (.slice rb rn rc) ((l.take i).map (fun y => sel y V)) ∧ Turn wl.heap.size (wl.heap.size + 1) w16 wr) (fun k _ => ln - (intOf k).toNat)
      case atStart => exact ⟨0, none, 0, 0, Nat.zero_le _, rfl, ⟨o_0, o_1, o_f1⟩, Acc.nil, turn_refl _ _ _⟩
      case round =>
        obtain ⟨i, rb, rn, rc, hi, rfl, ⟨y_0, y_1, y_f1⟩, hacc, hdr5⟩ := hrel
        have ht := hdr5
        clear o_0 o_1 o_f0 o_f1 hT1
        have hOW : wl.heap.size < w16.heap.size := by omega
        have s17 := hdr5.size
        have hb17 := hb16.trans ((hdr5.below (by omega)).mono (by omega))
        replace r_0 := (hdr5.cell (p := ⟨w.heap.size + 1 + 1, 0, none⟩) (by simp only []; omega) (by simp only []; omega)).trans r_0
        replace r_1 := (hdr5.cell (p := ⟨w.heap.size + 1 + 1, 1, none⟩) (by simp only []; omega) (by simp only []; omega)).trans r_1
        replace r_f0 := (World.frozen?_of_block (a := ⟨w.heap.size + 1 + 1, 0, none⟩) (hdr5.block _ (by simp only []; omega) (by simp only []; omega))).trans r_f0
        replace r_f1 := (World.frozen?_of_block (a := ⟨w.heap.size + 1 + 1, 1, none⟩) (hdr5.block _ (by simp only []; omega) (by simp only []; omega))).trans r_f1
        replace ov := ov.turn hdr5 (by omega)
        replace oL := oL.turn hdr5 (by omega)
        by_cases hlti : i < ln
        · obtain ⟨b5, o5, xb, xn, xc, y, rfl, hcy, hy, iy, hxc1, hxc2⟩ := t1.row hlti
          have hb5 : b5 < wl.heap.size := cell_lt hcy
          have hTo : Below wl.heap.size wl wr := c_T.trans ((ht.below (by omega)).mono (by omega))
          have c0 : wr.cell? ⟨b5, o5 + i, none⟩ = some (.slice xb xn xc) := (hTo.cell (p := ⟨b5, o5 + i, none⟩) hb5).trans hcy
          have HTK : Hid ((l.take (i + 1)).map (fun y => sel y V) = (l.take i).map (fun y => sel y V) ++ [sel y V]) := Lib.hid (by rw [List.take_add_one, hy.out, List.map_append]; rfl)
          have hTK := List.length_take_le i l
          have iyo := iy.below hTo
          have iV := rI_ints (ov.rd reads_I)
          clear hcy hy hTo iy
          go_wp2_with fail
          refine (sel_impl _ _ _ _ xc vc y V _ iyo iV (by have := iV.len; omega)).mono ?_
          rintro e w8 ⟨sb, sn, sc, rfl, os, z8⟩
          have s8 := z8.size
          have hacc8 := hacc.below z8 (Nat.le_refl _)
          have ht8 := ht.trans (turn_below z8 (by omega))
          have x_0 := (z8.cell (p := ⟨wl.heap.size, 0, none⟩) (by simp only []; omega)).trans y_0
          have x_1 := (z8.cell (p := ⟨wl.heap.size, 1, none⟩) (by simp only []; omega)).trans y_1
          have x_f1 := (z8.frozen (p := ⟨wl.heap.size, 1, none⟩) (by simp only []; omega)).trans y_f1
          have s18 := z8.size
          have hb18 := on hb17 z8
          replace r_0 := (z8.cell (p := ⟨w.heap.size + 1 + 1, 0, none⟩) (by simp only []; omega)).trans r_0
          replace r_1 := (z8.cell (p := ⟨w.heap.size + 1 + 1, 1, none⟩) (by simp only []; omega)).trans r_1
          replace r_f0 := (z8.frozen (p := ⟨w.heap.size + 1 + 1, 0, none⟩) (by simp only []; omega)).trans r_f0
          replace r_f1 := (z8.frozen (p := ⟨w.heap.size + 1 + 1, 1, none⟩) (by simp only []; omega)).trans r_f1
          replace ov := ov.below z8 (by omega)
          replace oL := oL.below z8 (by omega)
          replace c0 := (z8.cell (p := ⟨b5, o5 + i, none⟩) (by simp only []; omega)).trans c0
          obtain ⟨v', wN, hrun, haccN, htN, hsN, hkN⟩ := run_acc Tryz.underlying47 infoI rfl (by decide) (by decide) rfl (lo := wl.heap.size) (W0 := w16) 47 _ _ [.slice sb sn sc] (sel y V) hacc8 os (by intro z hz; simp at hz; subst hz; rfl) (by omega) (Nat.le_refl _) (by omega) (Nat.le_refl _) ht8 rfl (.inr (Nat.le_refl _)) (by omega) (by rw [List.length_map]; omega) rfl
          obtain ⟨rb2, rn2, rc2, rfl⟩ := haccN.form3
          have hkO := hkN wl.heap.size (by omega) (by omega)
          have n_0 := (World.cell?_of_block (a := ⟨wl.heap.size, 0, none⟩) hkO).trans x_0
          have n_1 := (World.cell?_of_block (a := ⟨wl.heap.size, 1, none⟩) hkO).trans x_1
          have n_f1 := (World.frozen?_of_block (a := ⟨wl.heap.size, 1, none⟩) hkO).trans x_f1
          have k0 : (wN.setCell ⟨wl.heap.size, 1, none⟩ (.slice rb2 rn2 rc2)).cell? ⟨wl.heap.size, 0, none⟩ = some (.slice vb vn vc) := by go_simp
          have k1 : (wN.setCell ⟨wl.heap.size, 1, none⟩ (.slice rb2 rn2 rc2)).cell? ⟨wl.heap.size, 1, none⟩ = some (.slice rb2 rn2 rc2) := by go_simp
          have k2 : (wN.setCell ⟨wl.heap.size, 1, none⟩ (.slice rb2 rn2 rc2)).frozen? ⟨wl.heap.size, 1, none⟩ = false := by go_simp
          have HAN := Lib.hid (haccN.setOut (p := ⟨wl.heap.size, 1, none⟩) (hi' := (wN.setCell ⟨wl.heap.size, 1, none⟩ (.slice rb2 rn2 rc2)).heap.size) (.slice rb2 rn2 rc2) (by simp only []; omega) (by simp only []; omega) (by simp [World.setCell]))
          have HTN := Lib.hid (htN.setIn (p := ⟨wl.heap.size, 1, none⟩) (Nat.le_refl _) (Nat.lt_succ_self _) (.slice rb2 rn2 rc2))
          clear hacc hacc8 ht8 haccN htN hkN hkO os y_0 y_1 y_f1 iyo iV
          go_wp2_with ((at_builtin; refine wpList_app_run hrun rfl rfl rfl rfl rfl ?_))
          go_roundw
          case rel => exact ⟨i + 1, rb2, rn2, rc2, by omega, by go_num, ⟨k0, k1, k2⟩, by rw [HTK.out]; exact HAN.out, HTN.out⟩
          case measure => simp [intOf]; omega
        · obtain rfl : ln = i := by omega
          rw [show l.take ln = l from List.take_of_length_le (by omega)] at hacc
          have HR := Lib.hid ((hacc.own (B := 0) (Nat.zero_le _) (Nat.zero_le _) (Nat.le_refl _)).rd reads_II)
          clear hacc
          go_wp2_with fail
          refine (sorted_any _ _ _ HR.out hselb).mono ?_
          rintro e w9 ⟨us, rfl, os, z9⟩
          obtain ⟨sb, sn, sc, rfl⟩ := oII_form1 os
          have x_0 := (z9.cell (p := ⟨wl.heap.size, 0, none⟩) (by simp only []; omega)).trans y_0
          have x_1 := (z9.cell (p := ⟨wl.heap.size, 1, none⟩) (by simp only []; omega)).trans y_1
          have x_f1 := (z9.frozen (p := ⟨wl.heap.size, 1, none⟩) (by simp only []; omega)).trans y_f1
          clear y_0 y_1 y_f1
          have s19 := z9.size
          have hb19 := on hb17 z9
          replace r_0 := (z9.cell (p := ⟨w.heap.size + 1 + 1, 0, none⟩) (by simp only []; omega)).trans r_0
          replace r_1 := (z9.cell (p := ⟨w.heap.size + 1 + 1, 1, none⟩) (by simp only []; omega)).trans r_1
          replace r_f0 := (z9.frozen (p := ⟨w.heap.size + 1 + 1, 0, none⟩) (by simp only []; omega)).trans r_f0
          replace r_f1 := (z9.frozen (p := ⟨w.heap.size + 1 + 1, 1, none⟩) (by simp only []; omega)).trans r_f1
          replace ov := ov.below z9 (by omega)
          replace oL := oL.below z9 (by omega)
          have hX : Turn wl.heap.size (wl.heap.size + 1) w9 (w9.setCell ⟨wl.heap.size, 1, none⟩ (.slice sb sn sc)) := Turn.setIn (turn_refl wl.heap.size (wl.heap.size + 1) w9) (p := ⟨wl.heap.size, 1, none⟩) (Nat.le_refl _) (Nat.lt_succ_self _) _
          have HOA : Hid (Own oAn (w.heap.size + 3) w9.heap.size (w9.setCell ⟨wl.heap.size, 1, none⟩ (.slice sb sn sc)) [.slice vb vn vc, .slice sb sn sc] E) := Lib.hid (oAn_mk (x := E) (by rw [HE1.out]; exact ov.turn hX (by omega)) (by rw [← HONE2.out]; exact os.turn hX (by omega)) (by omega) (by omega) (by omega) (by omega) (by omega))
          clear os ov oL hX HR
          go_wp2_with fail
          refine bodyPost_ret (v := .agg #[.slice vb vn vc, .slice sb sn sc]) (by simp [results, Tryz.results49, go_sem, x_0, x_1, x_f1, r_0, r_1, r_f0, r_f1]) rfl ⟨_, rfl, ?_, ?_⟩
          · refine Own.mono (lo := w.heap.size + 3) (hi := w9.heap.size) ?_ (by omega) (by simp [World.setCell])
            refine Own.setOut ?_ rfl (by simp only []; omega)
            refine Own.setOut ?_ rfl (by simp only []; omega)
            exact HOA.out
          · repeat (refine Below.setCell ?_ (by simp only []; omega) _)
            exact hb19

end Go.Proofs.YtkipgbgkhffkkaaGreat

/- Contracts: the answer of a query on the atoms of a mask, by the reference. -/
namespace Go.Proofs.YtkipgbgkhffkkaaGreat
open Go.RowKit
set_option linter.unusedVariables false
set_option linter.unusedSimpArgs false
set_option synthInstance.maxSize 2000
set_option synthInstance.maxHeartbeats 400000

theorem infoT : (Tryz.prog.info? 65).map (fun i => (i.zero, i.size, i.bytes)) = some (some (.agg #[.string ⟨#[]⟩, .int .i64 0, .slice none 0 0]), 3, 48) := by kernel_rfl
theorem infoA : (Tryz.prog.info? 69).map (fun i => (i.zero, i.size, i.bytes)) = some (some (.agg #[.string ⟨#[]⟩, .slice none 0 0]), 2, 40) := by kernel_rfl

set_option maxRecDepth 100000 in
set_option maxHeartbeats 8000000 in
theorem eval_spec (cs ds : List Value) (db : DDb) (x : DQ) (k : Int) (w : World) (h : rDb.rep w cs db) (h' : rQ.rep w ds x) (hk : I64 k) :
    Calls Tryz.prog 20 #[.agg cs.toArray, .agg ds.toArray, .int .i64 k] w fun e w' => ∃ us, e = .returned (.tuple #[.agg us.toArray, .bool (evalOk db x k)]) ∧ Own oAn w.heap.size w'.heap.size w' us (evalM db x k) ∧ Below w.heap.size w w' := by
  have HQF := Lib.hid (fun W (hW : Below w.heap.size w W) => queryFor_spec cs ds db x W (rDb.mono h hW) (rQ.mono h' hW))
  have HFM := Lib.hid (fun W (hW : Below w.heap.size w W) => fullMask_spec ds x W (rQ.mono h' hW))
  have HMV := Lib.hid (fun W (hW : Below w.heap.size w W) => maskVars_spec ds x k W (rQ.mono h' hW))
  obtain ⟨ub, un, uc, rfl, g1⟩ := rDb_open h
  obtain ⟨qb, qn, qc, rfl, hi2, gq⟩ := rQ_open h'
  have HCK := Lib.hid (fun name W (hW : Below w.heap.size w W) => lookS_any [.slice ub un uc] db name W (rDb.mono h hW))
  have HE0 : Hid (evalOk db x k = false → evalM db x k = ([], [])) := Lib.hid evalM_no
  have HE1 : Hid (evalOk db x k = true → ∃ K : Nat, k = K ∧ K < 16 ∧ evalM db x k = evalK db x K ∧ maskVars x k = varsOf x K ∧ x.2.length ≤ 4 ∧ (∀ a ∈ x.2, ∀ r ∈ (lookT (look db a.1)).2.2, r.length = a.2.length)) := Lib.hid (fun h9 => by
    obtain ⟨hf, hv, K, rfl, hK1, hK2, hmo⟩ := evalOk_valid h9
    obtain ⟨n, hq⟩ := QOk.of hv
    refine ⟨K, rfl, ?_, evalM_yes h9, maskVars_yes hmo, hq.len, fun a ha => (atom_fits hf ha).2⟩
    have := Nat.pow_le_pow_right (show 0 < 2 by omega) hq.len
    omega)
  have HEO : Hid (evalOk db x k = (queryFor db x && betw k 1 (fullMask x))) := rfl
  obtain ⟨ok, hok⟩ : ∃ ok, evalOk db x k = ok := ⟨_, rfl⟩
  obtain ⟨E, hE⟩ : ∃ E, evalM db x k = E := ⟨_, rfl⟩
  obtain ⟨qf, hqf⟩ : ∃ qf, queryFor db x = qf := ⟨_, rfl⟩
  obtain ⟨fm, hfm⟩ : ∃ fm, fullMask x = fm := ⟨_, rfl⟩
  obtain ⟨mv, hmv⟩ : ∃ mv, maskVars x k = mv := ⟨_, rfl⟩
  have hmv4 : mv.length ≤ 4 := by rw [← hmv]; exact maskVars_len x k
  rw [hok, hE] at HE0
  rw [hok, hE, hmv] at HE1
  rw [hok, hqf, hfm] at HEO
  rw [hqf] at HQF
  rw [hfm] at HFM
  rw [hmv] at HMV
  rw [hok, hE]
  obtain ⟨vq, xs⟩ := x
  simp only at hi2 gq HE1
  have t1 := rS_sl gq
  have hl := t1.len
  have hn := t1.small
  clear h h' g1 gq hok hE hqf hfm hmv
  have hb0 : Below w.heap.size w w := Below.refl _ _
  go_enter Tryz.func20, Tryz.ntmps20
  obtain ⟨w1, hw1⟩ : ∃ W, W = w.alloc (.cells #[.slice ub un uc] 34) := ⟨_, rfl⟩
  have z1 : Below w.heap.size w w1 := by rw [hw1]; exact (Below.refl _ _).alloc (Nat.le_refl _) _
  have s1 : w1.heap.size = w.heap.size + 1 := by rw [hw1]; simp
  have hb1 := on hb0 z1
  have b_0 : w1.cell? ⟨w.heap.size, 0, none⟩ = some (.slice ub un uc) := by rw [hw1]; exact box_cell (Below.refl _ _) rfl
  have b_f0 : w1.frozen? ⟨w.heap.size, 0, none⟩ = false := by rw [hw1]; exact box_frozen (Below.refl _ _)
  have raw1_b_0 := b_0
  rw [hw1] at raw1_b_0
  obtain ⟨w2, hw2⟩ : ∃ W, W = w1.alloc (.cells #[.int .i64 vq, .slice qb qn qc] 38) := ⟨_, rfl⟩
  have z2 : Below w1.heap.size w1 w2 := by rw [hw2]; exact (Below.refl _ _).alloc (Nat.le_refl _) _
  have s2 : w2.heap.size = w1.heap.size + 1 := by rw [hw2]; simp
  have hb2 := on hb1 z2
  replace b_0 := (z2.cell (p := ⟨w.heap.size, 0, none⟩) (by simp only []; omega)).trans b_0
  replace b_f0 := (z2.frozen (p := ⟨w.heap.size, 0, none⟩) (by simp only []; omega)).trans b_f0
  have e2 : w1.heap.size = w.heap.size + 1 := by omega
  have q_0 : w2.cell? ⟨w1.heap.size, 0, none⟩ = some (.int .i64 vq) := by rw [hw2]; exact box_cell (Below.refl _ _) rfl
  have q_1 : w2.cell? ⟨w1.heap.size, 1, none⟩ = some (.slice qb qn qc) := by rw [hw2]; exact box_cell (Below.refl _ _) rfl
  rw [e2] at q_0 q_1
  have q_f0 : w2.frozen? ⟨w1.heap.size, 0, none⟩ = false := by rw [hw2]; exact box_frozen (Below.refl _ _)
  have q_f1 : w2.frozen? ⟨w1.heap.size, 1, none⟩ = false := by rw [hw2]; exact box_frozen (Below.refl _ _)
  rw [e2] at q_f0 q_f1
  have raw2_b_0 := b_0
  have raw2_q_0 := q_0
  have raw2_q_1 := q_1
  rw [hw2, hw1] at raw2_b_0 raw2_q_0 raw2_q_1
  obtain ⟨w3, hw3⟩ : ∃ W, W = w2.alloc (.cells #[.slice none 0 0, .slice none 0 0] 49) := ⟨_, rfl⟩
  have z3 : Below w2.heap.size w2 w3 := by rw [hw3]; exact (Below.refl _ _).alloc (Nat.le_refl _) _
  have s3 : w3.heap.size = w2.heap.size + 1 := by rw [hw3]; simp
  have hb3 := on hb2 z3
  replace b_0 := (z3.cell (p := ⟨w.heap.size, 0, none⟩) (by simp only []; omega)).trans b_0
  replace b_f0 := (z3.frozen (p := ⟨w.heap.size, 0, none⟩) (by simp only []; omega)).trans b_f0
  replace q_0 := (z3.cell (p := ⟨w.heap.size + 1, 0, none⟩) (by simp only []; omega)).trans q_0
  replace q_1 := (z3.cell (p := ⟨w.heap.size + 1, 1, none⟩) (by simp only []; omega)).trans q_1
  replace q_f0 := (z3.frozen (p := ⟨w.heap.size + 1, 0, none⟩) (by simp only []; omega)).trans q_f0
  replace q_f1 := (z3.frozen (p := ⟨w.heap.size + 1, 1, none⟩) (by simp only []; omega)).trans q_f1
  have e3 : w2.heap.size = w.heap.size + 1 + 1 := by omega
  have r_0 : w3.cell? ⟨w2.heap.size, 0, none⟩ = some (.slice none 0 0) := by rw [hw3]; exact box_cell (Below.refl _ _) rfl
  have r_1 : w3.cell? ⟨w2.heap.size, 1, none⟩ = some (.slice none 0 0) := by rw [hw3]; exact box_cell (Below.refl _ _) rfl
  rw [e3] at r_0 r_1
  have r_f0 : w3.frozen? ⟨w2.heap.size, 0, none⟩ = false := by rw [hw3]; exact box_frozen (Below.refl _ _)
  have r_f1 : w3.frozen? ⟨w2.heap.size, 1, none⟩ = false := by rw [hw3]; exact box_frozen (Below.refl _ _)
  rw [e3] at r_f0 r_f1
  have raw3_b_0 := b_0
  have raw3_q_0 := q_0
  have raw3_q_1 := q_1
  have raw3_r_0 := r_0
  have raw3_r_1 := r_1
  rw [hw3, hw2, hw1] at raw3_b_0 raw3_q_0 raw3_q_1 raw3_r_0 raw3_r_1
  go_wp2_with fail
  rw [← hw1]
  rw [← hw2]
  rw [← hw3]
  clear hw3 hw2 hw1
  clear raw1_b_0 raw2_b_0 raw2_q_0 raw2_q_1 raw3_b_0 raw3_q_0 raw3_q_1 raw3_r_0 raw3_r_1
  refine (HQF.out _ hb3).mono ?_
  rintro e w7 ⟨rfl, z7⟩
  have s4 := z7.size
  have hb4 := on hb3 z7
  replace b_0 := (z7.cell (p := ⟨w.heap.size, 0, none⟩) (by simp only []; omega)).trans b_0
  replace b_f0 := (z7.frozen (p := ⟨w.heap.size, 0, none⟩) (by simp only []; omega)).trans b_f0
  replace q_0 := (z7.cell (p := ⟨w.heap.size + 1, 0, none⟩) (by simp only []; omega)).trans q_0
  replace q_1 := (z7.cell (p := ⟨w.heap.size + 1, 1, none⟩) (by simp only []; omega)).trans q_1
  replace q_f0 := (z7.frozen (p := ⟨w.heap.size + 1, 0, none⟩) (by simp only []; omega)).trans q_f0
  replace q_f1 := (z7.frozen (p := ⟨w.heap.size + 1, 1, none⟩) (by simp only []; omega)).trans q_f1
  replace r_0 := (z7.cell (p := ⟨w.heap.size + 1 + 1, 0, none⟩) (by simp only []; omega)).trans r_0
  replace r_1 := (z7.cell (p := ⟨w.heap.size + 1 + 1, 1, none⟩) (by simp only []; omega)).trans r_1
  replace r_f0 := (z7.frozen (p := ⟨w.heap.size + 1 + 1, 0, none⟩) (by simp only []; omega)).trans r_f0
  replace r_f1 := (z7.frozen (p := ⟨w.heap.size + 1 + 1, 1, none⟩) (by simp only []; omega)).trans r_f1
  cases qf with
  | false =>
    have hkf : ok = false := by rw [HEO.out]; rfl
    subst hkf
    have HE := Lib.hid (HE0.out rfl)
    clear HE0 HE1 HEO t1
    go_wp2_with fail
    refine bodyPost_ret (v := .tuple #[.agg #[.slice none 0 0, .slice none 0 0], .bool false]) (by simp [results, Tryz.results20, go_sem, r_0, r_1, r_f0, r_f1]) rfl ⟨_, rfl, ?_, ?_⟩
    · rw [HE.out]
      exact oAn_mk (x := ([], [])) (l0 := w.heap.size) (m0 := w.heap.size) (l1 := w.heap.size) (m1 := w.heap.size) own_nil_S own_nil_S (by omega) (by simp [World.setCell]; omega) (by omega) (by simp [World.setCell]; omega) (by omega)
    · repeat (refine Below.setCell ?_ (by simp only []; omega) _)
      exact hb4
  | true =>
    go_wp2_with fail
    refine (HFM.out _ hb4).mono ?_
    rintro e w8 ⟨rfl, z8⟩
    have s5 := z8.size
    have hb5 := on hb4 z8
    replace b_0 := (z8.cell (p := ⟨w.heap.size, 0, none⟩) (by simp only []; omega)).trans b_0
    replace b_f0 := (z8.frozen (p := ⟨w.heap.size, 0, none⟩) (by simp only []; omega)).trans b_f0
    replace q_0 := (z8.cell (p := ⟨w.heap.size + 1, 0, none⟩) (by simp only []; omega)).trans q_0
    replace q_1 := (z8.cell (p := ⟨w.heap.size + 1, 1, none⟩) (by simp only []; omega)).trans q_1
    replace q_f0 := (z8.frozen (p := ⟨w.heap.size + 1, 0, none⟩) (by simp only []; omega)).trans q_f0
    replace q_f1 := (z8.frozen (p := ⟨w.heap.size + 1, 1, none⟩) (by simp only []; omega)).trans q_f1
    replace r_0 := (z8.cell (p := ⟨w.heap.size + 1 + 1, 0, none⟩) (by simp only []; omega)).trans r_0
    replace r_1 := (z8.cell (p := ⟨w.heap.size + 1 + 1, 1, none⟩) (by simp only []; omega)).trans r_1
    replace r_f0 := (z8.frozen (p := ⟨w.heap.size + 1 + 1, 0, none⟩) (by simp only []; omega)).trans r_f0
    replace r_f1 := (z8.frozen (p := ⟨w.heap.size + 1 + 1, 1, none⟩) (by simp only []; omega)).trans r_f1
    have hin := l1In_any k 1 fm w8
    obtain ⟨bt, hbt⟩ : ∃ bt, betw k 1 fm = bt := ⟨_, rfl⟩
    rw [hbt] at hin HEO
    have HIN := Lib.hid hin
    clear hin hbt
    go_wp2_with fail
    refine HIN.out.mono ?_
    rintro e w' ⟨rfl, rfl⟩
    cases bt with
    | false =>
      have hkf : ok = false := by rw [HEO.out]; rfl
      subst hkf
      have HE := Lib.hid (HE0.out rfl)
      clear HE0 HE1 HEO t1
      go_wp2_with fail
      refine bodyPost_ret (v := .tuple #[.agg #[.slice none 0 0, .slice none 0 0], .bool false]) (by simp [results, Tryz.results20, go_sem, r_0, r_1, r_f0, r_f1]) rfl ⟨_, rfl, ?_, ?_⟩
      · rw [HE.out]
        exact oAn_mk (x := ([], [])) (l0 := w.heap.size) (m0 := w.heap.size) (l1 := w.heap.size) (m1 := w.heap.size) own_nil_S own_nil_S (by omega) (by simp [World.setCell]; omega) (by omega) (by simp [World.setCell]; omega) (by omega)
      · repeat (refine Below.setCell ?_ (by simp only []; omega) _)
        exact hb5
    | true =>
      have hkt : ok = true := by rw [HEO.out]; rfl
      subst hkt
      obtain ⟨K, rfl, hK, hEK, hMV, hx4, hfit⟩ := HE1.out rfl
      have HEK := Lib.hid hEK
      have HMVK := Lib.hid hMV
      have HFIT := Lib.hid hfit
      have hqn4 : qn ≤ 4 := by omega
      clear HE0 HE1 HEO hEK hMV hfit HIN HFM HQF hx4
      have v_b_0 := b_0
      have v_q_1 := q_1
      have v_q_0 := q_0
      have v_r_0 := r_0
      have v_r_1 := r_1
      have v_r_f0 := r_f0
      have v_r_f1 := r_f1
      have hLOs : w.heap.size + 3 ≤ w8.heap.size := by omega
      obtain ⟨w6, hw6⟩ : ∃ W, W = w8.alloc (.cells #[] 65) := ⟨_, rfl⟩
      have z6 : Below w8.heap.size w8 w6 := by rw [hw6]; exact (Below.refl _ _).alloc (Nat.le_refl _) _
      have s6 : w6.heap.size = w8.heap.size + 1 := by rw [hw6]; simp
      have hb6 := on hb5 z6
      replace b_0 := (z6.cell (p := ⟨w.heap.size, 0, none⟩) (by simp only []; omega)).trans b_0
      replace b_f0 := (z6.frozen (p := ⟨w.heap.size, 0, none⟩) (by simp only []; omega)).trans b_f0
      replace q_0 := (z6.cell (p := ⟨w.heap.size + 1, 0, none⟩) (by simp only []; omega)).trans q_0
      replace q_1 := (z6.cell (p := ⟨w.heap.size + 1, 1, none⟩) (by simp only []; omega)).trans q_1
      replace q_f0 := (z6.frozen (p := ⟨w.heap.size + 1, 0, none⟩) (by simp only []; omega)).trans q_f0
      replace q_f1 := (z6.frozen (p := ⟨w.heap.size + 1, 1, none⟩) (by simp only []; omega)).trans q_f1
      replace r_0 := (z6.cell (p := ⟨w.heap.size + 1 + 1, 0, none⟩) (by simp only []; omega)).trans r_0
      replace r_1 := (z6.cell (p := ⟨w.heap.size + 1 + 1, 1, none⟩) (by simp only []; omega)).trans r_1
      replace r_f0 := (z6.frozen (p := ⟨w.heap.size + 1 + 1, 0, none⟩) (by simp only []; omega)).trans r_f0
      replace r_f1 := (z6.frozen (p := ⟨w.heap.size + 1 + 1, 1, none⟩) (by simp only []; omega)).trans r_f1
      have he1 : ∀ S, Acc 65 oT w8.heap.size S w6.heap.size w6 (.slice (some ⟨w8.heap.size, 0, none⟩) 0 0) [] := fun S => by rw [hw6]; exact Acc.empty (by omega) (by first | (simp; done) | (simp; omega))
      have raw6_b_0 := b_0
      have raw6_q_0 := q_0
      have raw6_q_1 := q_1
      have raw6_r_0 := r_0
      have raw6_r_1 := r_1
      rw [hw6] at raw6_b_0 raw6_q_0 raw6_q_1 raw6_r_0 raw6_r_1
      have ze1 := z6
      obtain ⟨w7, hw7⟩ : ∃ W, W = w6.alloc (.cells #[] 69) := ⟨_, rfl⟩
      have z7 : Below w6.heap.size w6 w7 := by rw [hw7]; exact (Below.refl _ _).alloc (Nat.le_refl _) _
      have s7 : w7.heap.size = w6.heap.size + 1 := by rw [hw7]; simp
      have hb7 := on hb6 z7
      replace b_0 := (z7.cell (p := ⟨w.heap.size, 0, none⟩) (by simp only []; omega)).trans b_0
      replace b_f0 := (z7.frozen (p := ⟨w.heap.size, 0, none⟩) (by simp only []; omega)).trans b_f0
      replace q_0 := (z7.cell (p := ⟨w.heap.size + 1, 0, none⟩) (by simp only []; omega)).trans q_0
      replace q_1 := (z7.cell (p := ⟨w.heap.size + 1, 1, none⟩) (by simp only []; omega)).trans q_1
      replace q_f0 := (z7.frozen (p := ⟨w.heap.size + 1, 0, none⟩) (by simp only []; omega)).trans q_f0
      replace q_f1 := (z7.frozen (p := ⟨w.heap.size + 1, 1, none⟩) (by simp only []; omega)).trans q_f1
      replace r_0 := (z7.cell (p := ⟨w.heap.size + 1 + 1, 0, none⟩) (by simp only []; omega)).trans r_0
      replace r_1 := (z7.cell (p := ⟨w.heap.size + 1 + 1, 1, none⟩) (by simp only []; omega)).trans r_1
      replace r_f0 := (z7.frozen (p := ⟨w.heap.size + 1 + 1, 0, none⟩) (by simp only []; omega)).trans r_f0
      replace r_f1 := (z7.frozen (p := ⟨w.heap.size + 1 + 1, 1, none⟩) (by simp only []; omega)).trans r_f1
      replace he1 := fun S => (he1 S).below z7 (by omega)
      have he2 : ∀ S, Acc 69 (O.at rA w) w6.heap.size S w7.heap.size w7 (.slice (some ⟨w8.heap.size + 1, 0, none⟩) 0 0) [] := fun S => by rw [hw7]; exact Acc.empty (by omega) (by first | (simp; done) | (simp; omega))
      have raw7_b_0 := b_0
      have raw7_q_0 := q_0
      have raw7_q_1 := q_1
      have raw7_r_0 := r_0
      have raw7_r_1 := r_1
      rw [hw7, hw6] at raw7_b_0 raw7_q_0 raw7_q_1 raw7_r_0 raw7_r_1
      have ze2 := z7
      have o1 := (he1 w7.heap.size).own (B := w8.heap.size) (hi' := w8.heap.size + 1) (Nat.le_refl _) (by omega) (by omega)
      have o2 := (he2 w7.heap.size).own (B := w8.heap.size + 1) (hi' := w8.heap.size + 2) (by omega) (by omega) (by omega)
      have hDu : Duo 65 oT 69 (O.at rA w) w8.heap.size w7.heap.size w7 (.slice (some ⟨w8.heap.size, 0, none⟩) 0 0) (.slice (some ⟨w8.heap.size + 1, 0, none⟩) 0 0) ((pickTo K xs 0).map (fun a => lookT (look db a.1))) (pickTo K xs 0) := Duo.mono (hi := w8.heap.size + 2) (Duo.mk (mid := w8.heap.size + 1) o1 o2 (by omega) (by omega)) (Nat.le_refl _) (by omega)
      have hbT : Below w8.heap.size w8 w7 := ze1.trans (ze2.mono (by omega))
      clear o1 o2 he1 he2
      go_wp2_with fail
      rw [← hw6]
      rw [← hw7]
      clear hw7 hw6
      clear raw6_b_0 raw6_q_0 raw6_q_1 raw6_r_0 raw6_r_1 raw7_b_0 raw7_q_0 raw7_q_1 raw7_r_0 raw7_r_1
      go_loopw [8, 9, 10] (fun v u i wr => ∃ (j : Nat) (b2 : Option Addr) (n2 c2 : Nat) (b3 : Option Addr) (n3 c3 : Nat), j ≤ qn ∧ i = .int .i64 j ∧ v = .slice b2 n2 c2 ∧ u = .slice b3 n3 c3 ∧ Duo 65 oT 69 (O.at rA w) w8.heap.size wr.heap.size wr (.slice b2 n2 c2) (.slice b3 n3 c3) ((pickTo K xs j).map (fun a => lookT (look db a.1))) (pickTo K xs j) ∧ Below w8.heap.size w8 wr ∧ w8.heap.size ≤ wr.heap.size) (fun _ _ i _ => qn - (intOf i).toNat)
      case atStart => exact ⟨0, _, _, _, _, _, _, Nat.zero_le _, rfl, rfl, rfl, hDu, hbT, hbT.size⟩
      case round =>
        obtain ⟨j, b2, n2, c2, b3, n3, c3, hj, rfl, rfl, rfl, hduo, hlc, hls⟩ := hrel
        have hbr : Below w.heap.size w wr := (hb5).trans (hlc.mono (by omega))
        clear hDu hbT
        clear b_0 q_0 q_1 r_0 r_1 r_f0 r_f1
        have b_0 : wr.cell? ⟨w.heap.size, 0, none⟩ = some (.slice ub un uc) := (hlc.cell (p := ⟨w.heap.size, 0, none⟩) (by simp only []; omega)).trans v_b_0
        have q_0 : wr.cell? ⟨w.heap.size + 1, 0, none⟩ = some (.int .i64 vq) := (hlc.cell (p := ⟨w.heap.size + 1, 0, none⟩) (by simp only []; omega)).trans v_q_0
        have q_1 : wr.cell? ⟨w.heap.size + 1, 1, none⟩ = some (.slice qb qn qc) := (hlc.cell (p := ⟨w.heap.size + 1, 1, none⟩) (by simp only []; omega)).trans v_q_1
        have hpl := pickTo_len K xs j
        by_cases hlt : j < qn
        · obtain ⟨b1, o1, cs, a, rfl, hx, hr, hc⟩ := t1.at hlt
          obtain ⟨m1, vs⟩ := a
          obtain ⟨vb, vn, vc, rfl, hs, gv⟩ := rA_open hr
          have HRA := Lib.hid hr
          have HX := Lib.hid hx.out
          have hc1 := fun W (hW : Below w.heap.size w W) => HCK.out m1 W hW
          obtain ⟨t, ht⟩ : ∃ t, lookT (look db m1) = t := ⟨_, rfl⟩
          obtain ⟨so, hso⟩ : ∃ so, (look db m1).isSome = so := ⟨_, rfl⟩
          simp only [ht, hso] at hc1
          have HT9 := Lib.hid ht
          obtain ⟨ns, A, r1⟩ := t
          have HC1 := Lib.hid hc1
          have e_lt : b1 < w.heap.size := cell_lt (hc 0 _ rfl)
          have e_0 : wr.cell? ⟨b1, o1 + j * 2, none⟩ = some (.string m1) := (hbr.cell (p := ⟨b1, o1 + j * 2, none⟩) e_lt).trans (by have h9 := hc 0 _ rfl; rw [← Nat.add_assoc] at h9; exact h9)
          have e_1 : wr.cell? ⟨b1, o1 + j * 2 + 1, none⟩ = some (.slice vb vn vc) := (hbr.cell (p := ⟨b1, o1 + j * 2 + 1, none⟩) e_lt).trans (by have h9 := hc 1 _ rfl; rw [← Nat.add_assoc] at h9; exact h9)
          have hb1lt := e_lt
          have hbt := bit_test K j (by omega)
          obtain ⟨bb, hbb⟩ : ∃ bb, bitAt K j = bb := ⟨_, rfl⟩
          rw [hbb] at hbt
          have HBB := Lib.hid hbb
          clear hc hx hr gv hs hbb ht hso hc1
          cases bb with
          | false =>
            have HP : Hid (pickTo K xs (j + 1) = pickTo K xs j) := Lib.hid (pickTo_no HBB.out)
            have HD := Lib.hid hduo
            have HLC := Lib.hid hlc
            clear hduo
            go_wp2_with fail
            go_roundw
            case rel => exact ⟨j + 1, b2, n2, c2, b3, n3, c3, by omega, by go_num, rfl, rfl, by rw [HP.out]; exact HD.out, HLC.out, hls⟩
            case measure => simp [intOf]; omega
          | true =>
            have HP : Hid (pickTo K xs (j + 1) = pickTo K xs j ++ [(m1, vs)]) := Lib.hid (pickTo_yes HX.out HBB.out)
            have HP2 : Hid ((pickTo K xs (j + 1)).map (fun a => lookT (look db a.1)) = (pickTo K xs j).map (fun a => lookT (look db a.1)) ++ [(ns, A, r1)]) := Lib.hid (by rw [HP.out, List.map_append, ← HT9.out]; rfl)
            have hbd := (hbr).drew
            have hsz : wr.drew.heap.size = wr.heap.size := rfl
            have hbn : Below w.heap.size w (wr.alloc (.cells #[.string ⟨#[]⟩, .int .i64 0, .slice none 0 0] 65)).drew := ((hbr).alloc (by omega) _).drew
            have hsn : (wr.alloc (.cells #[.string ⟨#[]⟩, .int .i64 0, .slice none 0 0] 65)).drew.heap.size = wr.heap.size + 1 := by show (wr.alloc _).heap.size = _; simp
            have n_0 : (wr.alloc (.cells #[.string ⟨#[]⟩, .int .i64 0, .slice none 0 0] 65)).drew.cell? ⟨wr.heap.size, 0, none⟩ = some (.string ⟨#[]⟩) := box_cell (cs := #[.string ⟨#[]⟩, .int .i64 0, .slice none 0 0]) (T := 65) (i := 0) (Below.refl _ _).drew rfl
            have n_1 : (wr.alloc (.cells #[.string ⟨#[]⟩, .int .i64 0, .slice none 0 0] 65)).drew.cell? ⟨wr.heap.size, 1, none⟩ = some (.int .i64 0) := box_cell (cs := #[.string ⟨#[]⟩, .int .i64 0, .slice none 0 0]) (T := 65) (i := 1) (Below.refl _ _).drew rfl
            have n_2 : (wr.alloc (.cells #[.string ⟨#[]⟩, .int .i64 0, .slice none 0 0] 65)).drew.cell? ⟨wr.heap.size, 2, none⟩ = some (.slice none 0 0) := box_cell (cs := #[.string ⟨#[]⟩, .int .i64 0, .slice none 0 0]) (T := 65) (i := 2) (Below.refl _ _).drew rfl
            have f_0 : (wr.alloc (.cells #[.string ⟨#[]⟩, .int .i64 0, .slice none 0 0] 65)).drew.frozen? ⟨wr.heap.size, 0, none⟩ = false := box_frozen (cs := #[.string ⟨#[]⟩, .int .i64 0, .slice none 0 0]) (T := 65) (Below.refl _ _).drew
            have f_1 : (wr.alloc (.cells #[.string ⟨#[]⟩, .int .i64 0, .slice none 0 0] 65)).drew.frozen? ⟨wr.heap.size, 1, none⟩ = false := box_frozen (cs := #[.string ⟨#[]⟩, .int .i64 0, .slice none 0 0]) (T := 65) (Below.refl _ _).drew
            have f_2 : (wr.alloc (.cells #[.string ⟨#[]⟩, .int .i64 0, .slice none 0 0] 65)).drew.frozen? ⟨wr.heap.size, 2, none⟩ = false := box_frozen (cs := #[.string ⟨#[]⟩, .int .i64 0, .slice none 0 0]) (T := 65) (Below.refl _ _).drew
            have k_b_0 : (wr.alloc (.cells #[.string ⟨#[]⟩, .int .i64 0, .slice none 0 0] 65)).drew.cell? ⟨w.heap.size, 0, none⟩ = some (.slice ub un uc) := cell_box b_0
            have k_q_1 : (wr.alloc (.cells #[.string ⟨#[]⟩, .int .i64 0, .slice none 0 0] 65)).drew.cell? ⟨w.heap.size + 1, 1, none⟩ = some (.slice (some ⟨b1, o1, none⟩) qn qc) := cell_box q_1
            have k_e_0 : (wr.alloc (.cells #[.string ⟨#[]⟩, .int .i64 0, .slice none 0 0] 65)).drew.cell? ⟨b1, o1 + j * 2, none⟩ = some (.string m1) := cell_box e_0
            go_wp2_with fail
            go_region_held3 (fun W => W.cell? ⟨w.heap.size, 0, none⟩ = some (.slice ub un uc) ∧ W.cell? ⟨w.heap.size + 1, 1, none⟩ = some (.slice (some ⟨b1, o1, none⟩) qn qc) ∧ W.cell? ⟨b1, o1 + j * 2, none⟩ = some (.string m1)) (first | exact ⟨b_0, q_1, e_0⟩ | assumption | (go_split_ands; (first | exact ⟨cell_box (by assumption), cell_box (by assumption), cell_box (by assumption)⟩ | exact ⟨cell_set3 (by assumption) (by simp only []; omega), cell_set3 (by assumption) (by simp only []; omega), cell_set3 (by assumption) (by simp only []; omega)⟩))) (first | (go_at_call 36; (with_reducible refine (HC1.out _ hbd).mono ?_); rintro e w10 ⟨vb', vn', vc', rfl, ho10, z10⟩; have hS10 := (⟨(z10.cell (p := ⟨w.heap.size, 0, none⟩) (by simp only []; omega)).trans b_0, (z10.cell (p := ⟨w.heap.size + 1, 1, none⟩) (by simp only []; omega)).trans q_1, (z10.cell (p := ⟨b1, o1 + j * 2, none⟩) (by simp only []; omega)).trans e_0⟩ : (fun W => W.cell? ⟨w.heap.size, 0, none⟩ = some (.slice ub un uc) ∧ W.cell? ⟨w.heap.size + 1, 1, none⟩ = some (.slice (some ⟨b1, o1, none⟩) qn qc) ∧ W.cell? ⟨b1, o1 + j * 2, none⟩ = some (.string m1)) w10); have hz10 := z10.size) | (go_at_call 36; (with_reducible refine (HC1.out _ hbn).mono ?_); rintro e w10 ⟨vb', vn', vc', rfl, ho10, z10⟩; have hS10 := (⟨(z10.cell (p := ⟨w.heap.size, 0, none⟩) (by simp only []; omega)).trans k_b_0, (z10.cell (p := ⟨w.heap.size + 1, 1, none⟩) (by simp only []; omega)).trans k_q_1, (z10.cell (p := ⟨b1, o1 + j * 2, none⟩) (by simp only []; omega)).trans k_e_0⟩ : (fun W => W.cell? ⟨w.heap.size, 0, none⟩ = some (.slice ub un uc) ∧ W.cell? ⟨w.heap.size + 1, 1, none⟩ = some (.slice (some ⟨b1, o1, none⟩) qn qc) ∧ W.cell? ⟨b1, o1 + j * 2, none⟩ = some (.string m1)) w10); have hz10 := z10.size; replace n_0 := (z10.cell (p := ⟨wr.heap.size, 0, none⟩) (by simp only []; omega)).trans n_0; replace n_1 := (z10.cell (p := ⟨wr.heap.size, 1, none⟩) (by simp only []; omega)).trans n_1; replace n_2 := (z10.cell (p := ⟨wr.heap.size, 2, none⟩) (by simp only []; omega)).trans n_2; replace f_0 := (z10.frozen (p := ⟨wr.heap.size, 0, none⟩) (by simp only []; omega)).trans f_0; replace f_1 := (z10.frozen (p := ⟨wr.heap.size, 1, none⟩) (by simp only []; omega)).trans f_1; replace f_2 := (z10.frozen (p := ⟨wr.heap.size, 2, none⟩) (by simp only []; omega)).trans f_2))
            · obtain ⟨Wf, hW⟩ : ∃ W, W = w10.alloc (.cells #[.string ns, .int .i64 A, .slice vb' vn' vc'] 65) := ⟨_, rfl⟩
              have hsf : w10.heap.size + 1 ≤ Wf.heap.size := by rw [hW]; simp
              have hrf : Below wr.heap.size wr Wf := by rw [hW]; exact (on (Below.refl _ _).drew z10).alloc (by omega) _
              have hoT : Own oT wr.heap.size w10.heap.size Wf [.string ns, .int .i64 A, .slice vb' vn' vc'] (ns, A, r1) := by rw [hW]; exact ho10.below ((Below.refl w10.heap.size w10).alloc (Nat.le_refl _) _) (Nat.le_refl _)
              have t_0 : Wf.cell? ⟨w10.heap.size, 0, none⟩ = some (.string ns) := by rw [hW]; exact box_cell (i := 0) (Below.refl _ _) rfl
              have t_1 : Wf.cell? ⟨w10.heap.size, 1, none⟩ = some (.int .i64 A) := by rw [hW]; exact box_cell (i := 1) (Below.refl _ _) rfl
              have t_2 : Wf.cell? ⟨w10.heap.size, 2, none⟩ = some (.slice vb' vn' vc') := by rw [hW]; exact box_cell (i := 2) (Below.refl _ _) rfl
              have x_1 : Wf.cell? ⟨w.heap.size + 1, 1, none⟩ = some (.slice (some ⟨b1, o1, none⟩) qn qc) := by rw [hW]; exact cell_box hS10.2.1
              rw [← hW]
              clear hS10 n_0 n_1 n_2 f_0 f_1 f_2 k_b_0 k_q_1 k_e_0 hW z10 hbn hbd ho10
              have hsr := hrf.size
              have hD := (hduo.below hrf (Nat.le_refl _))
              obtain ⟨a2, n2, p2, w11, hr11, hD11, hb11, hs11⟩ := Duo.one Tryz.underlying32 infoT rfl (by decide) (by decide) rfl 32 [.string ns, .int .i64 A, .slice vb' vn' vc'] (ns, A, r1) hD hoT (by intro u hu; simp at hu; rcases hu with rfl | rfl | rfl <;> rfl) (by omega) (by omega) (by omega) (by simp; omega) rfl
              have hOA : Own (O.at rA w) w11.heap.size w11.heap.size w11 [.string m1, .slice vb vn vc] (m1, vs) := ⟨[], ⟨HRA.out, rfl⟩, by simp, by simp⟩
              obtain ⟨a3, n3, p3, w12, hr12, hD12, hb12, hs12⟩ := Duo.one Tryz.underlying36 infoA rfl (by decide) (by decide) rfl 36 [.string m1, .slice vb vn vc] (m1, vs) hD11.swap hOA (by intro u hu; simp at hu; rcases hu with rfl | rfl <;> rfl) (Nat.le_refl _) (by omega) (Nat.le_refl _) (by omega) rfl
              have x_11 : w11.cell? ⟨w.heap.size + 1, 1, none⟩ = some (.slice (some ⟨b1, o1, none⟩) qn qc) := (hb11.cell (p := ⟨w.heap.size + 1, 1, none⟩) (by simp only []; omega)).trans x_1
              have y_0 : w11.cell? ⟨b1, o1 + j * 2, none⟩ = some (.string m1) := (hb11.cell (p := ⟨b1, o1 + j * 2, none⟩) (by simp only []; omega)).trans ((hrf.cell (p := ⟨b1, o1 + j * 2, none⟩) (by simp only []; omega)).trans e_0)
              have y_1 : w11.cell? ⟨b1, o1 + j * 2 + 1, none⟩ = some (.slice vb vn vc) := (hb11.cell (p := ⟨b1, o1 + j * 2 + 1, none⟩) (by simp only []; omega)).trans ((hrf.cell (p := ⟨b1, o1 + j * 2 + 1, none⟩) (by simp only []; omega)).trans e_1)
              have HDN := Lib.hid hD12.swap
              have HBN : Hid (Below w8.heap.size w8 w12) := Lib.hid (((hlc.trans (hrf.mono (by omega))).trans (hb11.mono (by omega))).trans (hb12.mono (by omega)))
              clear hduo hD hD11 hD12 hOA hoT hrf
              go_wp2_with (first | (at_builtin; refine wpList_app_run hr11 rfl rfl rfl rfl rfl ?_) | (at_builtin; refine wpList_app_run hr12 rfl rfl rfl rfl rfl ?_))
              go_roundw
              case rel => exact ⟨j + 1, a2, n2, p2, a3, n3, p3, by omega, by go_num, rfl, rfl, by rw [HP2.out, HP.out]; exact HDN.out, HBN.out, by omega⟩
              case measure => simp [intOf]; omega
            · obtain ⟨Wf, hW⟩ : ∃ W, W = ((w10.setCell ⟨wr.heap.size, 0, none⟩ (.string ns)).setCell ⟨wr.heap.size, 1, none⟩ (.int .i64 A)).setCell ⟨wr.heap.size, 2, none⟩ (.slice vb' vn' vc') := ⟨_, rfl⟩
              have hsf : w10.heap.size ≤ Wf.heap.size := by rw [hW]; simp [World.setCell]
              have hrf : Below wr.heap.size wr Wf := by
                rw [hW]
                exact (((on (((Below.refl _ _).alloc (Nat.le_refl _) _).drew) z10).setCell (by simp only []; omega) _).setCell (by simp only []; omega) _).setCell (by simp only []; omega) _
              have hoT : Own oT (wr.heap.size + 1) w10.heap.size Wf [.string ns, .int .i64 A, .slice vb' vn' vc'] (ns, A, r1) := by
                rw [hW]
                refine Own.setOut (w := (w10.setCell ⟨wr.heap.size, 0, none⟩ (.string ns)).setCell ⟨wr.heap.size, 1, none⟩ (.int .i64 A)) ?_ rfl (by simp only []; omega)
                refine Own.setOut (w := w10.setCell ⟨wr.heap.size, 0, none⟩ (.string ns)) ?_ rfl (by simp only []; omega)
                refine Own.setOut (w := w10) ?_ rfl (by simp only []; omega)
                exact hsn ▸ ho10
              have t_0 : Wf.cell? ⟨wr.heap.size, 0, none⟩ = some (.string ns) := by rw [hW]; simp [n_0, n_1, n_2, go_sem]
              have t_1 : Wf.cell? ⟨wr.heap.size, 1, none⟩ = some (.int .i64 A) := by rw [hW]; simp [n_0, n_1, n_2, go_sem]
              have t_2 : Wf.cell? ⟨wr.heap.size, 2, none⟩ = some (.slice vb' vn' vc') := by rw [hW]; simp [n_0, n_1, n_2, go_sem]
              have x_1 : Wf.cell? ⟨w.heap.size + 1, 1, none⟩ = some (.slice (some ⟨b1, o1, none⟩) qn qc) := by rw [hW]; exact cell_set3 hS10.2.1 (by simp only []; omega)
              rw [← hW]
              clear hS10 n_0 n_1 n_2 f_0 f_1 f_2 k_b_0 k_q_1 k_e_0 hW z10 hbn hbd ho10
              have hsr := hrf.size
              have hD := (hduo.below hrf (Nat.le_refl _))
              obtain ⟨a2, n2, p2, w11, hr11, hD11, hb11, hs11⟩ := Duo.one Tryz.underlying32 infoT rfl (by decide) (by decide) rfl 32 [.string ns, .int .i64 A, .slice vb' vn' vc'] (ns, A, r1) hD hoT (by intro u hu; simp at hu; rcases hu with rfl | rfl | rfl <;> rfl) (by omega) (by omega) (by omega) (by simp; omega) rfl
              have hOA : Own (O.at rA w) w11.heap.size w11.heap.size w11 [.string m1, .slice vb vn vc] (m1, vs) := ⟨[], ⟨HRA.out, rfl⟩, by simp, by simp⟩
              obtain ⟨a3, n3, p3, w12, hr12, hD12, hb12, hs12⟩ := Duo.one Tryz.underlying36 infoA rfl (by decide) (by decide) rfl 36 [.string m1, .slice vb vn vc] (m1, vs) hD11.swap hOA (by intro u hu; simp at hu; rcases hu with rfl | rfl <;> rfl) (Nat.le_refl _) (by omega) (Nat.le_refl _) (by omega) rfl
              have x_11 : w11.cell? ⟨w.heap.size + 1, 1, none⟩ = some (.slice (some ⟨b1, o1, none⟩) qn qc) := (hb11.cell (p := ⟨w.heap.size + 1, 1, none⟩) (by simp only []; omega)).trans x_1
              have y_0 : w11.cell? ⟨b1, o1 + j * 2, none⟩ = some (.string m1) := (hb11.cell (p := ⟨b1, o1 + j * 2, none⟩) (by simp only []; omega)).trans ((hrf.cell (p := ⟨b1, o1 + j * 2, none⟩) (by simp only []; omega)).trans e_0)
              have y_1 : w11.cell? ⟨b1, o1 + j * 2 + 1, none⟩ = some (.slice vb vn vc) := (hb11.cell (p := ⟨b1, o1 + j * 2 + 1, none⟩) (by simp only []; omega)).trans ((hrf.cell (p := ⟨b1, o1 + j * 2 + 1, none⟩) (by simp only []; omega)).trans e_1)
              have HDN := Lib.hid hD12.swap
              have HBN : Hid (Below w8.heap.size w8 w12) := Lib.hid (((hlc.trans (hrf.mono (by omega))).trans (hb11.mono (by omega))).trans (hb12.mono (by omega)))
              clear hduo hD hD11 hD12 hOA hoT hrf
              go_wp2_with (first | (at_builtin; refine wpList_app_run hr11 rfl rfl rfl rfl rfl ?_) | (at_builtin; refine wpList_app_run hr12 rfl rfl rfl rfl rfl ?_))
              go_roundw
              case rel => exact ⟨j + 1, a2, n2, p2, a3, n3, p3, by omega, by go_num, rfl, rfl, by rw [HP2.out, HP.out]; exact HDN.out, HBN.out, by omega⟩
              case measure => simp [intOf]; omega
        · obtain rfl : qn = j := by omega
          have HZ : Hid (pickTo K xs qn = selA (vq, xs) K) := Lib.hid (by rw [selA]; congr 1; exact hl.symm)
          have HPM : Hid (∀ a ∈ pickTo K xs qn, a ∈ xs) := Lib.hid (fun a ha => by obtain ⟨i, _, _, h3⟩ := pickTo_mem.1 ha; exact List.mem_of_getElem? h3)
          obtain ⟨zs, hzs⟩ : ∃ zs, pickTo K xs qn = zs := ⟨_, rfl⟩
          rw [hzs] at hduo HZ HPM hpl
          clear hzs t1 HCK
          go_wp2_with fail
          refine (HMV.out _ hbr).mono ?_
          rintro e w13 ⟨u13, rfl, o13, z13⟩
          obtain ⟨vb, vn, vc, rfl⟩ := oI_form1 o13
          have hm13 := z13.size
          have hl13 := hlc.trans (z13.mono (by omega))
          replace hduo := hduo.below z13 (Nat.le_refl _)
          have s8 := z13.size
          have hb8 := on hbr z13
          replace b_0 := (z13.cell (p := ⟨w.heap.size, 0, none⟩) (by simp only []; omega)).trans b_0
          replace q_0 := (z13.cell (p := ⟨w.heap.size + 1, 0, none⟩) (by simp only []; omega)).trans q_0
          replace q_1 := (z13.cell (p := ⟨w.heap.size + 1, 1, none⟩) (by simp only []; omega)).trans q_1
          have HO13 := o13
          obtain ⟨w9, hw9⟩ : ∃ W, W = w13.alloc (.cells #[] 3) := ⟨_, rfl⟩
          have z9 : Below w13.heap.size w13 w9 := by rw [hw9]; exact (Below.refl _ _).alloc (Nat.le_refl _) _
          have s9 : w9.heap.size = w13.heap.size + 1 := by rw [hw9]; simp
          have hb9 := on hb8 z9
          replace b_0 := (z9.cell (p := ⟨w.heap.size, 0, none⟩) (by simp only []; omega)).trans b_0
          replace q_0 := (z9.cell (p := ⟨w.heap.size + 1, 0, none⟩) (by simp only []; omega)).trans q_0
          replace q_1 := (z9.cell (p := ⟨w.heap.size + 1, 1, none⟩) (by simp only []; omega)).trans q_1
          replace o13 := o13.below z9 (by omega)
          have he3 : ∀ S, Acc 3 O.int w13.heap.size S w9.heap.size w9 (.slice (some ⟨w13.heap.size, 0, none⟩) 0 0) [] := fun S => by rw [hw9]; exact Acc.empty (by omega) (by first | (simp; done) | (simp; omega))
          have ze3 := z9
          replace hduo := hduo.below ze3 (by omega)
          have hl14 := hl13.trans (ze3.mono (by omega))
          have hsT : Sl rT w9 b2 n2 (zs.map (fun a => lookT (look db a.1))) := rS_sl (hduo.fst.rd reads_Tl)
          have hsA : Sl rA w9 b3 n3 zs := by
            obtain ⟨fp, h1, _⟩ := hduo.snd
            exact rS_sl (at_reads h1 hb9)
          have hsV := rI_ints (o13.rd reads_I)
          have hsR : Ints w9 (some ⟨w13.heap.size, 0, none⟩) 0 [] := ⟨rfl, by omega, fun i hi => by omega, by intro x hx; cases hx⟩
          have HWA := Lib.hid (walk_any b2 b3 vb n2 c2 n3 c3 vn vc (zs.map (fun a => lookT (look db a.1))) zs mv (by simp) (fun i t a h1 h2 => by
            rw [List.getElem?_map, h2] at h1
            simp at h1
            subst h1
            exact HFIT.out a (HPM.out a (List.mem_of_getElem? h2))) hmv4 mv.length (some ⟨w13.heap.size, 0, none⟩) 0 0 [] w9 hsT hsA hsV hsR (by simp))
          have HEE : Hid (E = (mv, walkE (zipRA (zs.map (fun a => lookT (look db a.1))) zs) mv mv.length [])) := Lib.hid (by rw [HEK.out, HMVK.out, HZ.out]; rfl)
          obtain ⟨R, hR⟩ : ∃ R, walkE (zipRA (zs.map (fun a => lookT (look db a.1))) zs) mv mv.length [] = R := ⟨_, rfl⟩
          rw [hR] at HEE HWA
          clear hsT hsA hsV hsR hduo hR he3
          go_wp2_with fail
          rw [← hw9]
          clear hw9
          refine HWA.out.mono ?_
          rintro e w15 ⟨g, n5, c5, rfl, o15, z15⟩
          have hl15 := hl14.trans (z15.mono (by omega))
          clear q_0 q_1 b_0
          have s10 := z15.size
          have hb10 := on hb9 z15
          replace o13 := o13.below z15 (by omega)
          have r_0 : w15.cell? ⟨w.heap.size + 1 + 1, 0, none⟩ = some (.slice none 0 0) := (hl15.cell (p := ⟨w.heap.size + 1 + 1, 0, none⟩) (by simp only []; omega)).trans v_r_0
          have r_1 : w15.cell? ⟨w.heap.size + 1 + 1, 1, none⟩ = some (.slice none 0 0) := (hl15.cell (p := ⟨w.heap.size + 1 + 1, 1, none⟩) (by simp only []; omega)).trans v_r_1
          have r_f0 : w15.frozen? ⟨w.heap.size + 1 + 1, 0, none⟩ = false := (hl15.frozen (p := ⟨w.heap.size + 1 + 1, 0, none⟩) (by simp only []; omega)).trans v_r_f0
          have r_f1 : w15.frozen? ⟨w.heap.size + 1 + 1, 1, none⟩ = false := (hl15.frozen (p := ⟨w.heap.size + 1 + 1, 1, none⟩) (by simp only []; omega)).trans v_r_f1
          have HOA : Hid (Own oAn w8.heap.size w15.heap.size w15 [.slice vb vn vc, .slice (some ⟨g, 0, none⟩) n5 c5] E) := Lib.hid (by
            rw [HEE.out]
            exact oAn_mk (x := (mv, R)) o13 o15 (by omega) (by omega) (by omega) (by omega) (by omega))
          clear o13 o15 HO13
          go_wp2_with fail
          refine bodyPost_ret (v := .tuple #[.agg #[.slice vb vn vc, .slice (some ⟨g, 0, none⟩) n5 c5], .bool true]) (by simp [results, Tryz.results20, go_sem, r_0, r_1, r_f0, r_f1]) rfl ⟨_, rfl, ?_, ?_⟩
          · refine Own.mono (lo := w8.heap.size) (hi := w15.heap.size) ?_ (by omega) (by simp [World.setCell])
            repeat (refine Own.setOut ?_ rfl (by simp only []; omega))
            exact HOA.out
          · repeat (refine Below.setCell ?_ (by simp only []; omega) _)
            exact hb10

end Go.Proofs.YtkipgbgkhffkkaaGreat
