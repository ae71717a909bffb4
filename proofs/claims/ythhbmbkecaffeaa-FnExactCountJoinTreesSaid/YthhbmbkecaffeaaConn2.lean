/- Contracts: neighbors and connected masks of a query. -/
import Derived.Test.YthhbmbkecaffeaaConn
namespace Go.Proofs.Ythhbmbkecaffeaa
open Go.RowKit
set_option linter.unusedVariables false
set_option linter.unusedSimpArgs false
set_option synthInstance.maxSize 2000
set_option synthInstance.maxHeartbeats 400000

/-- NeighborMask. -/
def nearMask (q : DQ) (k : Int) : Int := if maskOkB q k then ((near q k.toNat : Nat) : Int) else 0
/-- IsConnected. -/
def isConn (q : DQ) (k : Int) : Bool := maskOkB q k && conn q k.toNat
theorem nearMask_no {q : DQ} {k : Int} (h : maskOkB q k = false) : nearMask q k = 0 := by simp [nearMask, h]
theorem nearMask_yes {q : DQ} {K : Nat} (h : maskOkB q (K : Int) = true) : nearMask q (K : Int) = ((near q K : Nat) : Int) := by simp [nearMask, h]
theorem isConn_no {q : DQ} {k : Int} (h : maskOkB q k = false) : isConn q k = false := by simp [isConn, h]
theorem isConn_yes {q : DQ} {K : Nat} (h : maskOkB q (K : Int) = true) : isConn q (K : Int) = conn q K := by simp [isConn, h]
theorem connMasks_no {q : DQ} (h : fullMask q = 0) : connMasks q = [] := by simp [connMasks, h, connTo]
theorem fullMask_nat (q : DQ) : ∃ M : Nat, fullMask q = M ∧ M < 16 ∧ (M ≠ 0 → validQ q = true ∧ M < 2 ^ q.2.length) ∧ connMasks q = connTo q M := by
  by_cases h : validQ q = true
  · obtain ⟨n, hq⟩ := QOk.of h
    have h1 := pow_le16 hq.len
    have h2 := Nat.two_pow_pos q.2.length
    refine ⟨2 ^ q.2.length - 1, fullMask_yes h, by omega, fun _ => ⟨h, by omega⟩, by rw [connMasks, fullMask_yes h]; rfl⟩
  · exact ⟨0, fullMask_no (by simpa using h), by omega, fun h => absurd rfl h, by rw [connMasks_no (fullMask_no (by simpa using h))]; rfl⟩
theorem connMasks_len (q : DQ) : (connMasks q).length ≤ 15 := by
  obtain ⟨M, _, h2, _, h4⟩ := fullMask_nat q
  rw [h4]; have := connTo_len q M; omega
theorem connMasks_cnt (q : DQ) : cnt_I (connMasks q) ≤ 15 := connMasks_len q
theorem conn_joined (q : DQ) (m : Nat) : conn q (m + 1) = joined q (m + 1) := by simp [conn]

set_option maxHeartbeats 1000000 in
theorem isConn_impl (cs : List Value) (x : DQ) (k : Int) (w : World) (h : rQ.rep w cs x) :
    Calls Try.prog 59 #[.agg cs.toArray, .int .i64 k] w fun e w' => e = .returned (.bool (isConn x k)) ∧ Below w.heap.size w w' := by
  obtain ⟨ub, un, uc, rfl⟩ := rQ_form h
  have hb0 : Below w.heap.size w w := Below.refl _ _
  go_enter Try.func59, Try.ntmps59
  obtain ⟨w1, hw1⟩ : ∃ W, W = w.alloc (.cells #[.int .i64 x.1, .slice ub un uc] 29) := ⟨_, rfl⟩
  have z1 : Below w.heap.size w w1 := by rw [hw1]; exact (Below.refl _ _).alloc (Nat.le_refl _) _
  have s1 : w1.heap.size = w.heap.size + 1 := by rw [hw1]; simp
  have hb1 := on hb0 z1
  have b_0 : w1.cell? ⟨w.heap.size, 0, none⟩ = some (.int .i64 x.1) := by rw [hw1]; exact box_cell (Below.refl _ _) rfl
  have b_1 : w1.cell? ⟨w.heap.size, 1, none⟩ = some (.slice ub un uc) := by rw [hw1]; exact box_cell (Below.refl _ _) rfl
  have raw1_b_0 := b_0
  have raw1_b_1 := b_1
  rw [hw1] at raw1_b_0 raw1_b_1
  go_wp2_with fail
  rw [← hw1]
  clear hw1
  clear raw1_b_0 raw1_b_1
  refine (maskOk_impl _ x k _ (rQ.mono h hb1)).mono ?_
  rintro e w2 ⟨rfl, z2⟩
  have s3 := z2.size
  have hb3 := on hb1 z2
  replace b_0 := (z2.cell (p := ⟨w.heap.size, 0, none⟩) (by simp only []; omega)).trans b_0
  replace b_1 := (z2.cell (p := ⟨w.heap.size, 1, none⟩) (by simp only []; omega)).trans b_1
  by_cases hv : maskOkB x k = true
  case neg =>
    replace hv : maskOkB x k = false := by simpa using hv
    have HE := Lib.hid (isConn_no hv)
    go_wp2_with fail
    go_ret
    exact ⟨ret_bool HE.out.symm, hb3⟩
  obtain ⟨K, rfl, hK⟩ := maskOkB_lt hv
  obtain ⟨n, hq⟩ := QOk.of (maskOkB_valid hv)
  have HE := Lib.hid (isConn_yes hv)
  go_wp2_with fail
  refine (connected_any _ x K n _ (rQ.mono h hb3) hq hK).mono ?_
  rintro e w4 ⟨rfl, z4⟩
  have s5 := z4.size
  have hb5 := on hb3 z4
  replace b_0 := (z4.cell (p := ⟨w.heap.size, 0, none⟩) (by simp only []; omega)).trans b_0
  replace b_1 := (z4.cell (p := ⟨w.heap.size, 1, none⟩) (by simp only []; omega)).trans b_1
  clear hq hK
  go_wp2_with fail
  go_ret
  exact ⟨ret_bool (by rw [HE.out]), hb5⟩

set_option maxHeartbeats 1000000 in
theorem isConn_spec (cs : List Value) (x : DQ) (k : Int) (w : World) (h : rQ.rep w cs x) :
    Calls Try.prog 58 #[.agg cs.toArray, .int .i64 k] w fun e w' => e = .returned (.bool (isConn x k)) ∧ Below w.heap.size w w' := by
  obtain ⟨ub, un, uc, rfl⟩ := rQ_form h
  have hb0 : Below w.heap.size w w := Below.refl _ _
  go_enter Try.func58, Try.ntmps58
  obtain ⟨w1, hw1⟩ : ∃ W, W = w.alloc (.cells #[.int .i64 x.1, .slice ub un uc] 29) := ⟨_, rfl⟩
  have z1 : Below w.heap.size w w1 := by rw [hw1]; exact (Below.refl _ _).alloc (Nat.le_refl _) _
  have s1 : w1.heap.size = w.heap.size + 1 := by rw [hw1]; simp
  have hb1 := on hb0 z1
  have b_0 : w1.cell? ⟨w.heap.size, 0, none⟩ = some (.int .i64 x.1) := by rw [hw1]; exact box_cell (Below.refl _ _) rfl
  have b_1 : w1.cell? ⟨w.heap.size, 1, none⟩ = some (.slice ub un uc) := by rw [hw1]; exact box_cell (Below.refl _ _) rfl
  have raw1_b_0 := b_0
  have raw1_b_1 := b_1
  rw [hw1] at raw1_b_0 raw1_b_1
  go_wp2_with fail
  rw [← hw1]
  clear hw1
  clear raw1_b_0 raw1_b_1
  refine (maskOk_spec _ x k _ (rQ.mono h hb1)).mono ?_
  rintro e w2 ⟨rfl, z2⟩
  have s3 := z2.size
  have hb3 := on hb1 z2
  replace b_0 := (z2.cell (p := ⟨w.heap.size, 0, none⟩) (by simp only []; omega)).trans b_0
  replace b_1 := (z2.cell (p := ⟨w.heap.size, 1, none⟩) (by simp only []; omega)).trans b_1
  by_cases hv : maskOkB x k = true
  case neg =>
    replace hv : maskOkB x k = false := by simpa using hv
    have HE := Lib.hid (isConn_no hv)
    go_wp2_with fail
    go_ret
    exact ⟨ret_bool HE.out.symm, hb3⟩
  obtain ⟨K, rfl, hK⟩ := maskOkB_lt hv
  obtain ⟨n, hq⟩ := QOk.of (maskOkB_valid hv)
  have HE := Lib.hid (isConn_yes hv)
  by_cases h0 : K = 0
  case pos =>
    subst h0
    have HE0 := Lib.hid (show isConn x ((0 : Nat) : Int) = false by rw [HE.out]; simp [conn])
    clear hq hK
    go_wp2_with fail
    go_ret
    exact ⟨ret_bool HE0.out.symm, hb3⟩
  have HJ := Lib.hid (show conn x K = joined x K by simp [conn, h0])
  have hpos : 0 < K := by omega
  clear h0
  go_wp2_with fail
  refine (joined_any _ x K n _ (rQ.mono h hb3) hq hK).mono ?_
  rintro e w4 ⟨rfl, z4⟩
  have s5 := z4.size
  have hb5 := on hb3 z4
  replace b_0 := (z4.cell (p := ⟨w.heap.size, 0, none⟩) (by simp only []; omega)).trans b_0
  replace b_1 := (z4.cell (p := ⟨w.heap.size, 1, none⟩) (by simp only []; omega)).trans b_1
  clear hq hK
  go_wp2_with fail
  go_ret
  exact ⟨ret_bool (by rw [HE.out, HJ.out]), hb5⟩

end Go.Proofs.Ythhbmbkecaffeaa
