/- Contracts: splits of connected masks, and join trees. -/
import Derived.Test.YthhbmbkecaffeaaSplitP
import Derived.Test.YthhbmbkecaffeaaConn2
namespace Go.Proofs.Ythhbmbkecaffeaa
open Go.RowKit
set_option linter.unusedVariables false
set_option linter.unusedSimpArgs false
set_option synthInstance.maxSize 2000
set_option synthInstance.maxHeartbeats 400000

theorem andnot_int : ∀ K, K < 16 → ∀ x, x < 16 → x &&& K = x → bits .andNot .i64 ((K : Nat) : Int) ((x : Nat) : Int) = ((K - x : Nat) : Int) := by decide +kernel
/-- JoinSplits. -/
def joinSplits (q : DQ) (k : Int) : List Int := if isConn q k then splitsTo q k.toNat (k.toNat - 1) else []
/-- CountJoinTrees. -/
def treesI (q : DQ) (k : Int) : Int := if isConn q k then ((treesN q k.toNat : Nat) : Int) else 0
theorem joinSplits_no {q : DQ} {k : Int} (h : isConn q k = false) : joinSplits q k = [] := by simp [joinSplits, h]
theorem joinSplits_yes {q : DQ} {K : Nat} (h : isConn q (K : Int) = true) : joinSplits q (K : Int) = splitsTo q K (K - 1) := by simp [joinSplits, h]
theorem isConn_facts {q : DQ} {k : Int} (h : isConn q k = true) : ∃ K n : Nat, k = K ∧ QOk q n ∧ K < 2 ^ q.2.length ∧ K < 16 ∧ 1 ≤ K ∧ conn q K = true ∧ maskOkB q k = true := by
  simp only [isConn, Bool.and_eq_true] at h
  obtain ⟨K, rfl, hK⟩ := maskOkB_lt h.1
  obtain ⟨n, hq⟩ := QOk.of (maskOkB_valid h.1)
  have h1 : conn q K = true := by simpa using h.2
  have h2 : K ≠ 0 := by intro e; subst e; simp [conn] at h1
  exact ⟨K, n, rfl, hq, hK, Nat.lt_of_lt_of_le hK (pow_le16 hq.len), by omega, h1, h.1⟩
theorem joinSplits_len (q : DQ) (k : Int) : (joinSplits q k).length ≤ 15 := by
  by_cases h : isConn q k = true
  · obtain ⟨K, n, rfl, _, _, h3, _⟩ := isConn_facts h
    rw [joinSplits_yes h]; have := splitsTo_len q K (K - 1); omega
  · rw [joinSplits_no (by simpa using h)]; simp
theorem joinSplits_cnt (q : DQ) (k : Int) : cnt_I (joinSplits q k) ≤ 15 := joinSplits_len q k
theorem conn_pos {q : DQ} {m : Nat} (h : 1 ≤ m) : conn q m = joined q m := by
  have : m ≠ 0 := by omega
  simp [conn, this]
theorem isConn_part {q : DQ} {K y : Nat} (h : maskOkB q (K : Int) = true) (h1 : 1 ≤ y) (h2 : y ≤ K) (h3 : joined q y = true) : isConn q (y : Int) = true := by
  simp only [isConn, Bool.and_eq_true, maskOkB, betw, decide_eq_true_eq] at h ⊢
  refine ⟨⟨h.1, by omega⟩, ?_⟩
  rw [Int.toNat_natCast, conn_pos h1]; exact h3
theorem treesI_nat {q : DQ} {K : Nat} (h : isConn q (K : Int) = true) : treesI q (K : Int) = ((treesN q K : Nat) : Int) := by simp [treesI, h]
theorem treesI_no {q : DQ} {k : Int} (h : isConn q k = false) : treesI q k = 0 := by simp [treesI, h]

set_option maxHeartbeats 4000000 in
theorem joinSplits_impl (cs : List Value) (x : DQ) (k : Int) (w : World) (h : rQ.rep w cs x) :
    Calls Try.prog 20 #[.agg cs.toArray, .int .i64 k] w fun e w' => ∃ u, e = .returned u ∧ Own oI w.heap.size w'.heap.size w' [u] (joinSplits x k) ∧ Below w.heap.size w w' := by
  obtain ⟨ub, un, uc, rfl⟩ := rQ_form h
  have hb0 : Below w.heap.size w w := Below.refl _ _
  go_enter Try.func20, Try.ntmps20
  obtain ⟨w1, hw1⟩ : ∃ W, W = w.alloc (.cells #[.int .i64 x.1, .slice ub un uc] 29) := ⟨_, rfl⟩
  have z1 : Below w.heap.size w w1 := by rw [hw1]; exact (Below.refl _ _).alloc (Nat.le_refl _) _
  have s1 : w1.heap.size = w.heap.size + 1 := by rw [hw1]; simp
  have hb1 := on hb0 z1
  have b_0 : w1.cell? ⟨w.heap.size, 0, none⟩ = some (.int .i64 x.1) := by rw [hw1]; exact box_cell (Below.refl _ _) rfl
  have b_1 : w1.cell? ⟨w.heap.size, 1, none⟩ = some (.slice ub un uc) := by rw [hw1]; exact box_cell (Below.refl _ _) rfl
  have raw1_b_0 := b_0
  have raw1_b_1 := b_1
  rw [hw1] at raw1_b_0 raw1_b_1
  go_wp2_with fail
  rw [← hw1]
  clear hw1
  clear raw1_b_0 raw1_b_1
  refine (isConn_impl _ x k _ (rQ.mono h hb1)).mono ?_
  rintro e w2 ⟨rfl, z2⟩
  have s3 := z2.size
  have hb3 := on hb1 z2
  replace b_0 := (z2.cell (p := ⟨w.heap.size, 0, none⟩) (by simp only []; omega)).trans b_0
  replace b_1 := (z2.cell (p := ⟨w.heap.size, 1, none⟩) (by simp only []; omega)).trans b_1
  by_cases hv : isConn x k = true
  case neg =>
    replace hv : isConn x k = false := by simpa using hv
    have HE := Lib.hid (joinSplits_no hv)
    go_wp2_with fail
    go_ret
    exact ⟨_, rfl, by rw [HE.out]; exact (OwnInts.nil _ _).own, hb3⟩
  obtain ⟨K, n, rfl, hq, hK, hK16, hK1, hcn, hok⟩ := isConn_facts hv
  have HE := Lib.hid (joinSplits_yes hv)
  have HQ := Lib.hid hq
  have HK := Lib.hid hK
  clear hq hK hcn hok
  obtain ⟨w4, hw4⟩ : ∃ W, W = w2.alloc (.cells #[] 3) := ⟨_, rfl⟩
  have z4 : Below w2.heap.size w2 w4 := by rw [hw4]; exact (Below.refl _ _).alloc (Nat.le_refl _) _
  have s4 : w4.heap.size = w2.heap.size + 1 := by rw [hw4]; simp
  have hb4 := on hb3 z4
  replace b_0 := (z4.cell (p := ⟨w.heap.size, 0, none⟩) (by simp only []; omega)).trans b_0
  replace b_1 := (z4.cell (p := ⟨w.heap.size, 1, none⟩) (by simp only []; omega)).trans b_1
  have ho : ∀ S, Acc 3 O.int w2.heap.size S w4.heap.size w4 (.slice (some ⟨w2.heap.size, 0, none⟩) 0 0) [] := fun S => by rw [hw4]; exact Acc.empty (by omega) (by first | (simp; done) | (simp; omega))
  go_wp2_with fail
  rw [← hw4]
  clear hw4
  clear hv
  go_loopw [5, 6] (fun v k wr => ∃ j : Nat, j + 1 ≤ K ∧ k = .int .i64 ((j : Int) + 1) ∧ Acc 3 O.int w2.heap.size w4.heap.size wr.heap.size wr v (splitsTo x K j) ∧ Turn w2.heap.size (w2.heap.size + 1) w4 wr) (fun _ k _ => 16 - (intOf k).toNat)
  case atStart => exact ⟨0, by omega, rfl, (ho _).wide (Nat.le_refl _) (by omega), turn_refl _ _ _⟩
  case round =>
    obtain ⟨j, hj, rfl, hacc, hdr⟩ := hrel
    have hlc := hdr
    clear ho
    have s5 := hdr.size
    have hb5 := hb4.trans ((hdr.below (by omega)).mono (by omega))
    replace b_0 := (hdr.cell (p := ⟨w.heap.size, 0, none⟩) (by simp only []; omega) (by simp only []; omega)).trans b_0
    replace b_1 := (hdr.cell (p := ⟨w.heap.size, 1, none⟩) (by simp only []; omega) (by simp only []; omega)).trans b_1
    have hlen := splitsTo_len x K j
    by_cases hlt : j + 1 < K
    · have hj1 : (j : Int) + 1 < (K : Int) := by omega
      have hba := bits_and_nat (j + 1) K (by omega) (by omega)
      rw [show ((j + 1 : Nat) : Int) = (j : Int) + 1 by omega] at hba
      obtain ⟨P, hP⟩ : ∃ P, P = (j + 1) &&& K := ⟨_, rfl⟩
      rw [← hP] at hba
      by_cases hp : P = j + 1
      case neg =>
        have hne : ((P : Int) == (j : Int) + 1) = false := by rw [beq_eq_false_iff_ne]; omega
        rw [← splitsTo_no (show splitB x K (j + 1) = false by rw [splitB, ← hP, decide_eq_false hp]; rfl)] at hacc
        have HO := Lib.hid (hacc.wide (hi' := wr.heap.size) (Nat.le_refl _) (by omega))
        clear hacc hP hp
        go_wp2_with fail
        go_roundw
        case rel => exact ⟨j + 1, by omega, by go_num, HO.out, hlc⟩
        case measure => simp [intOf]; omega
      have hpp : (j + 1) &&& K = j + 1 := by rw [← hP]; exact hp
      have hne : ((P : Int) == (j : Int) + 1) = true := by rw [beq_iff_eq]; omega
      obtain ⟨R, hR⟩ : ∃ R, R = K - (j + 1) := ⟨_, rfl⟩
      have hR1 : 1 ≤ R ∧ R < K := by omega
      obtain ⟨hR1, hR2⟩ := hR1
      have hdf := andnot_int K hK16 (j + 1) (by omega) hpp
      rw [show ((j + 1 : Nat) : Int) = (j : Int) + 1 by omega, ← hR] at hdf
      have hc1 := fun W (hW : rQ.rep W [.int .i64 x.1, .slice ub un uc] x) => connected_any _ x (j + 1) n W hW HQ.out (by have := HK.out; omega)
      have hc2 := fun W (hW : rQ.rep W [.int .i64 x.1, .slice ub un uc] x) => connected_any _ x R n W hW HQ.out (by have := HK.out; omega)
      rw [conn_pos (show 1 ≤ j + 1 by omega), show ((j + 1 : Nat) : Int) = (j : Int) + 1 by omega] at hc1
      rw [conn_pos (show 1 ≤ R by omega)] at hc2
      obtain ⟨t1, ht1⟩ : ∃ t, t = joined x (j + 1) := ⟨_, rfl⟩
      obtain ⟨t2, ht2⟩ : ∃ t, t = joined x R := ⟨_, rfl⟩
      rw [← ht1] at hc1
      rw [← ht2] at hc2
      have HC1 := Lib.hid hc1
      have HC2 := Lib.hid hc2
      have HS := Lib.hid (show splitB x K (j + 1) = (t1 && t2) by rw [ht1, ht2, hR]; rw [splitB, hpp, decide_eq_true rfl, Bool.true_and])
      clear hc1 hc2 ht1 ht2 hR hpp hp hP
      go_wp2_with fail
      refine (HC1.out _ (rQ.mono h hb5)).mono ?_
      rintro e w8 ⟨rfl, z8⟩
      have s6 := z8.size
      have hb6 := on hb5 z8
      replace b_0 := (z8.cell (p := ⟨w.heap.size, 0, none⟩) (by simp only []; omega)).trans b_0
      replace b_1 := (z8.cell (p := ⟨w.heap.size, 1, none⟩) (by simp only []; omega)).trans b_1
      replace hlc := hlc.trans (turn_below z8 (Nat.le_refl _))
      replace hacc := hacc.below z8 (by omega)
      cases t1 with
      | false =>
        rw [← splitsTo_no (show splitB x K (j + 1) = false by rw [HS.out]; rfl)] at hacc
        have HO := Lib.hid (hacc.wide (hi' := w8.heap.size) (Nat.le_refl _) (by omega))
        clear hacc
        go_wp2_with fail
        go_roundw
        case rel => exact ⟨j + 1, by omega, by go_num, HO.out, hlc⟩
        case measure => simp [intOf]; omega
      | true =>
        go_wp2_with fail
        refine (HC2.out _ (rQ.mono h hb6)).mono ?_
        rintro e w7 ⟨rfl, z7⟩
        have s7 := z7.size
        have hb7 := on hb6 z7
        replace b_0 := (z7.cell (p := ⟨w.heap.size, 0, none⟩) (by simp only []; omega)).trans b_0
        replace b_1 := (z7.cell (p := ⟨w.heap.size, 1, none⟩) (by simp only []; omega)).trans b_1
        replace hlc := hlc.trans (turn_below z7 (Nat.le_refl _))
        replace hacc := hacc.below z7 (by omega)
        cases t2 with
        | false =>
          rw [← splitsTo_no (show splitB x K (j + 1) = false by rw [HS.out]; rfl)] at hacc
          have HO := Lib.hid (hacc.wide (hi' := w7.heap.size) (Nat.le_refl _) (by omega))
          clear hacc
          go_wp2_with fail
          go_roundw
          case rel => exact ⟨j + 1, by omega, by go_num, HO.out, hlc⟩
          case measure => simp [intOf]; omega
        | true =>
          have HY := Lib.hid (splitsTo_yes (show splitB x K (j + 1) = true by rw [HS.out]; rfl))
          go_wp2_with ((at_builtin; refine wpList_accI _ _ _ _ _ hacc hlc rfl (by omega) (by omega) ⟨by omega, by omega⟩ (by omega) rfl rfl rfl rfl rfl ?_; intro v' w1 hacc' ht' hsz'))
          rw [show ((j : Int) + 1) = ((j + 1 : Nat) : Int) by omega, ← HY.out] at hacc'
          go_roundw
          case rel => exact ⟨j + 1, by omega, by go_num, hacc', ht'⟩
          case measure => simp [intOf]; omega
    · obtain rfl : K = j + 1 := by omega
      have hj1 : ¬ ((j : Int) + 1 < ((j + 1 : Nat) : Int)) := by omega
      obtain ⟨a', n', cap2, rfl⟩ := hacc.form3
      rw [← (show joinSplits x ((j + 1 : Nat) : Int) = splitsTo x (j + 1) j from HE.out)] at hacc
      have HO := Lib.hid (hacc.own (B := w.heap.size) (hi' := wr.heap.size) (by omega) (by omega) (by omega))
      clear hacc HE
      go_wp2_with fail
      go_ret
      exact ⟨_, rfl, HO.out, hb5⟩

set_option maxHeartbeats 4000000 in
theorem joinSplits_spec (cs : List Value) (x : DQ) (k : Int) (w : World) (h : rQ.rep w cs x) :
    Calls Try.prog 19 #[.agg cs.toArray, .int .i64 k] w fun e w' => ∃ u, e = .returned u ∧ Own oI w.heap.size w'.heap.size w' [u] (joinSplits x k) ∧ Below w.heap.size w w' := by
  obtain ⟨ub, un, uc, rfl⟩ := rQ_form h
  have hb0 : Below w.heap.size w w := Below.refl _ _
  go_enter Try.func19, Try.ntmps19
  obtain ⟨w1, hw1⟩ : ∃ W, W = w.alloc (.cells #[.int .i64 x.1, .slice ub un uc] 29) := ⟨_, rfl⟩
  have z1 : Below w.heap.size w w1 := by rw [hw1]; exact (Below.refl _ _).alloc (Nat.le_refl _) _
  have s1 : w1.heap.size = w.heap.size + 1 := by rw [hw1]; simp
  have hb1 := on hb0 z1
  have b_0 : w1.cell? ⟨w.heap.size, 0, none⟩ = some (.int .i64 x.1) := by rw [hw1]; exact box_cell (Below.refl _ _) rfl
  have b_1 : w1.cell? ⟨w.heap.size, 1, none⟩ = some (.slice ub un uc) := by rw [hw1]; exact box_cell (Below.refl _ _) rfl
  have raw1_b_0 := b_0
  have raw1_b_1 := b_1
  rw [hw1] at raw1_b_0 raw1_b_1
  obtain ⟨w2, hw2⟩ : ∃ W, W = w1.alloc (.cells #[] 3) := ⟨_, rfl⟩
  have z2 : Below w1.heap.size w1 w2 := by rw [hw2]; exact (Below.refl _ _).alloc (Nat.le_refl _) _
  have s2 : w2.heap.size = w1.heap.size + 1 := by rw [hw2]; simp
  have hb2 := on hb1 z2
  replace b_0 := (z2.cell (p := ⟨w.heap.size, 0, none⟩) (by simp only []; omega)).trans b_0
  replace b_1 := (z2.cell (p := ⟨w.heap.size, 1, none⟩) (by simp only []; omega)).trans b_1
  have ho : ∀ S, Acc 3 O.int w1.heap.size S w2.heap.size w2 (.slice (some ⟨w.heap.size + 1, 0, none⟩) 0 0) [] := fun S => by rw [hw2]; exact Acc.empty (by omega) (by first | (simp; done) | (simp; omega))
  go_wp2_with fail
  rw [← hw1]
  rw [← hw2]
  clear hw2 hw1
  clear raw1_b_0 raw1_b_1
  refine (isConn_spec _ x k _ (rQ.mono h hb2)).mono ?_
  rintro e w3 ⟨rfl, z3⟩
  have s4 := z3.size
  have hb4 := on hb2 z3
  replace b_0 := (z3.cell (p := ⟨w.heap.size, 0, none⟩) (by simp only []; omega)).trans b_0
  replace b_1 := (z3.cell (p := ⟨w.heap.size, 1, none⟩) (by simp only []; omega)).trans b_1
  replace ho := fun S => (ho S).below z3 (by omega)
  by_cases hv : isConn x k = true
  case neg =>
    replace hv : isConn x k = false := by simpa using hv
    have HE := Lib.hid (joinSplits_no hv)
    have hoo := (ho w.heap.size).own (B := w.heap.size) (hi' := w3.heap.size) (by omega) (Nat.le_refl _) (by omega)
    clear ho
    go_wp2_with fail
    go_ret
    exact ⟨_, rfl, by rw [HE.out]; exact hoo, hb4⟩
  obtain ⟨K, n, rfl, hq, hK, hK16, hK1, hcn, hok⟩ := isConn_facts hv
  have HE := Lib.hid (joinSplits_yes hv)
  have HQ := Lib.hid hq
  have HK := Lib.hid hK
  clear hq hK hcn hok
  go_wp2_with fail
  clear hv
  go_loopw [5, 6] (fun v k wr => ∃ j : Nat, j + 1 ≤ K ∧ k = .int .i64 ((j : Int) + 1) ∧ Acc 3 O.int w1.heap.size w3.heap.size wr.heap.size wr v (splitsTo x K j) ∧ Turn w1.heap.size (w1.heap.size + 1) w3 wr) (fun _ k _ => 16 - (intOf k).toNat)
  case atStart => exact ⟨0, by omega, rfl, (ho _).wide (Nat.le_refl _) (by omega), turn_refl _ _ _⟩
  case round =>
    obtain ⟨j, hj, rfl, hacc, hdr⟩ := hrel
    have hlc := hdr
    clear ho
    have s5 := hdr.size
    have hb5 := hb4.trans ((hdr.below (by omega)).mono (by omega))
    replace b_0 := (hdr.cell (p := ⟨w.heap.size, 0, none⟩) (by simp only []; omega) (by simp only []; omega)).trans b_0
    replace b_1 := (hdr.cell (p := ⟨w.heap.size, 1, none⟩) (by simp only []; omega) (by simp only []; omega)).trans b_1
    have hlen := splitsTo_len x K j
    by_cases hlt : j + 1 < K
    · have hj1 : (j : Int) + 1 < (K : Int) := by omega
      have hba := bits_and_nat (j + 1) K (by omega) (by omega)
      rw [show ((j + 1 : Nat) : Int) = (j : Int) + 1 by omega] at hba
      obtain ⟨P, hP⟩ : ∃ P, P = (j + 1) &&& K := ⟨_, rfl⟩
      rw [← hP] at hba
      by_cases hp : P = j + 1
      case neg =>
        have hne : ((P : Int) == (j : Int) + 1) = false := by rw [beq_eq_false_iff_ne]; omega
        rw [← splitsTo_no (show splitB x K (j + 1) = false by rw [splitB, ← hP, decide_eq_false hp]; rfl)] at hacc
        have HO := Lib.hid (hacc.wide (hi' := wr.heap.size) (Nat.le_refl _) (by omega))
        clear hacc hP hp
        go_wp2_with fail
        go_roundw
        case rel => exact ⟨j + 1, by omega, by go_num, HO.out, hlc⟩
        case measure => simp [intOf]; omega
      have hpp : (j + 1) &&& K = j + 1 := by rw [← hP]; exact hp
      have hne : ((P : Int) == (j : Int) + 1) = true := by rw [beq_iff_eq]; omega
      obtain ⟨R, hR⟩ : ∃ R, R = K - (j + 1) := ⟨_, rfl⟩
      have hR1 : 1 ≤ R ∧ R < K := by omega
      obtain ⟨hR1, hR2⟩ := hR1
      have hdf : (K : Int) - ((j : Int) + 1) = (R : Int) := by omega
      have hc1 := fun W (hW : rQ.rep W [.int .i64 x.1, .slice ub un uc] x) => joined_any _ x (j + 1) n W hW HQ.out (by have := HK.out; omega)
      have hc2 := fun W (hW : rQ.rep W [.int .i64 x.1, .slice ub un uc] x) => joined_any _ x R n W hW HQ.out (by have := HK.out; omega)
      rw [show ((j + 1 : Nat) : Int) = (j : Int) + 1 by omega] at hc1
      obtain ⟨t1, ht1⟩ : ∃ t, t = joined x (j + 1) := ⟨_, rfl⟩
      obtain ⟨t2, ht2⟩ : ∃ t, t = joined x R := ⟨_, rfl⟩
      rw [← ht1] at hc1
      rw [← ht2] at hc2
      have HC1 := Lib.hid hc1
      have HC2 := Lib.hid hc2
      have HS := Lib.hid (show splitB x K (j + 1) = (t1 && t2) by rw [ht1, ht2, hR]; rw [splitB, hpp, decide_eq_true rfl, Bool.true_and])
      clear hc1 hc2 ht1 ht2 hR hpp hp hP
      go_wp2_with fail
      refine (HC1.out _ (rQ.mono h hb5)).mono ?_
      rintro e w8 ⟨rfl, z8⟩
      have s6 := z8.size
      have hb6 := on hb5 z8
      replace b_0 := (z8.cell (p := ⟨w.heap.size, 0, none⟩) (by simp only []; omega)).trans b_0
      replace b_1 := (z8.cell (p := ⟨w.heap.size, 1, none⟩) (by simp only []; omega)).trans b_1
      replace hlc := hlc.trans (turn_below z8 (Nat.le_refl _))
      replace hacc := hacc.below z8 (by omega)
      cases t1 with
      | false =>
        rw [← splitsTo_no (show splitB x K (j + 1) = false by rw [HS.out]; rfl)] at hacc
        have HO := Lib.hid (hacc.wide (hi' := w8.heap.size) (Nat.le_refl _) (by omega))
        clear hacc
        go_wp2_with fail
        go_roundw
        case rel => exact ⟨j + 1, by omega, by go_num, HO.out, hlc⟩
        case measure => simp [intOf]; omega
      | true =>
        go_wp2_with fail
        refine (HC2.out _ (rQ.mono h hb6)).mono ?_
        rintro e w7 ⟨rfl, z7⟩
        have s7 := z7.size
        have hb7 := on hb6 z7
        replace b_0 := (z7.cell (p := ⟨w.heap.size, 0, none⟩) (by simp only []; omega)).trans b_0
        replace b_1 := (z7.cell (p := ⟨w.heap.size, 1, none⟩) (by simp only []; omega)).trans b_1
        replace hlc := hlc.trans (turn_below z7 (Nat.le_refl _))
        replace hacc := hacc.below z7 (by omega)
        cases t2 with
        | false =>
          rw [← splitsTo_no (show splitB x K (j + 1) = false by rw [HS.out]; rfl)] at hacc
          have HO := Lib.hid (hacc.wide (hi' := w7.heap.size) (Nat.le_refl _) (by omega))
          clear hacc
          go_wp2_with fail
          go_roundw
          case rel => exact ⟨j + 1, by omega, by go_num, HO.out, hlc⟩
          case measure => simp [intOf]; omega
        | true =>
          have HY := Lib.hid (splitsTo_yes (show splitB x K (j + 1) = true by rw [HS.out]; rfl))
          go_wp2_with ((at_builtin; refine wpList_accI _ _ _ _ _ hacc hlc rfl (by omega) (by omega) ⟨by omega, by omega⟩ (by omega) rfl rfl rfl rfl rfl ?_; intro v' w1 hacc' ht' hsz'))
          rw [show ((j : Int) + 1) = ((j + 1 : Nat) : Int) by omega, ← HY.out] at hacc'
          go_roundw
          case rel => exact ⟨j + 1, by omega, by go_num, hacc', ht'⟩
          case measure => simp [intOf]; omega
    · obtain rfl : K = j + 1 := by omega
      have hj1 : ¬ ((j : Int) + 1 < ((j + 1 : Nat) : Int)) := by omega
      obtain ⟨a', n', cap2, rfl⟩ := hacc.form3
      rw [← (show joinSplits x ((j + 1 : Nat) : Int) = splitsTo x (j + 1) j from HE.out)] at hacc
      have HO := Lib.hid (hacc.own (B := w.heap.size) (hi' := wr.heap.size) (by omega) (by omega) (by omega))
      clear hacc HE
      go_wp2_with fail
      go_ret
      exact ⟨_, rfl, HO.out, hb5⟩

end Go.Proofs.Ythhbmbkecaffeaa
