/- Contracts: how many join trees. -/
import Derived.Test.YthhbmbkecaffeaaSplit
import Derived.Deep.RegionHeld3
namespace Go.Proofs.Ythhbmbkecaffeaa
open Go.RowKit
set_option linter.unusedVariables false
set_option linter.unusedSimpArgs false
set_option synthInstance.maxSize 2000
set_option synthInstance.maxHeartbeats 400000

set_option maxHeartbeats 400000 in
theorem maxZero (g cap : Nat) (n : Int) (w : World) (h0 : w.cell? ⟨g, 0, none⟩ = some (.int .i64 n)) (h1 : w.cell? ⟨g, 1, none⟩ = some (.int .i64 0)) (hn : 0 ≤ n) :
    Calls Try.prog 60 #[.slice (some ⟨g, 0, none⟩) 2 cap] w fun e w' => e = .returned (.int .i64 n) ∧ w = w' := by
  go_enter Try.func60, Try.ntmps60
  go_wp2
  go_loop [3, 4] (fun m k => ∃ j : Nat, 1 ≤ j ∧ j ≤ 2 ∧ k = .int .i64 j ∧ m = .int .i64 n) (fun _ k => 2 - (intOf k).toNat)
  case atStart => exact ⟨1, by omega, by omega, rfl, rfl⟩
  case round =>
    obtain ⟨j, hj1, hj2, rfl, rfl⟩ := hrel
    by_cases hlt : j < 2
    · obtain rfl : j = 1 := by omega
      clear hj1 hj2 hlt
      have hm : max n 0 = n := by omega
      go_wp2
      go_round
      case rel => exact ⟨2, by omega, by omega, rfl, rfl⟩
      case measure => simp [intOf]
    · obtain rfl : j = 2 := by omega
      clear hj1 hj2 hlt
      go_wp2
      go_ret
      exact ⟨rfl, rfl⟩

/-- The sum over what is left of a list of splits. -/
def treesFrom (q : DQ) (K : Nat) (l : List Int) : Nat := (l.map (fun x => treesN q x.toNat * treesN q (K - x.toNat))).sum
theorem treesFrom_at {q : DQ} {K j y : Nat} {l : List Int} (hj : j < l.length) (hx : l.getD j 0 = (y : Int)) : treesFrom q K (l.drop j) = treesN q y * treesN q (K - y) + treesFrom q K (l.drop (j + 1)) := by
  rw [drop_cons l j hj, hx]; simp [treesFrom]
theorem treesFrom_end {q : DQ} {K j : Nat} {l : List Int} (hj : l.length ≤ j) : treesFrom q K (l.drop j) = 0 := by
  rw [List.drop_eq_nil_of_le hj]; rfl
theorem getD_mem' {xs : List Int} {k : Nat} (h : k < xs.length) : xs.getD k 0 ∈ xs := by
  rw [List.getD_eq_getElem?_getD, List.getElem?_eq_getElem h]; exact List.getElem_mem h

set_option maxHeartbeats 4000000 in
theorem trees_impl_aux (N : Nat) : ∀ (cs : List Value) (x : DQ) (k : Int) (w : World) (h : rQ.rep w cs x), k.toNat < N →
    Calls Try.prog 18 #[.agg cs.toArray, .int .i64 k] w fun e w' => e = .returned (.int .i64 (treesI x k)) ∧ Below w.heap.size w w' := by
  induction N with
  | zero => intro cs x k w h hk; omega
  | succ N ih =>
  intro cs x k w h hkN
  obtain ⟨ub, un, uc, rfl⟩ := rQ_form h
  have IH := Lib.hid ih
  clear ih
  have hb0 : Below w.heap.size w w := Below.refl _ _
  go_enter Try.func18, Try.ntmps18
  obtain ⟨w1, hw1⟩ : ∃ W, W = w.alloc (.cells #[.int .i64 x.1, .slice ub un uc] 29) := ⟨_, rfl⟩
  have z1 : Below w.heap.size w w1 := by rw [hw1]; exact (Below.refl _ _).alloc (Nat.le_refl _) _
  have s1 : w1.heap.size = w.heap.size + 1 := by rw [hw1]; simp
  have hb1 := on hb0 z1
  have b_0 : w1.cell? ⟨w.heap.size, 0, none⟩ = some (.int .i64 x.1) := by rw [hw1]; exact box_cell (Below.refl _ _) rfl
  have b_1 : w1.cell? ⟨w.heap.size, 1, none⟩ = some (.slice ub un uc) := by rw [hw1]; exact box_cell (Below.refl _ _) rfl
  have raw1_b_0 := b_0
  have raw1_b_1 := b_1
  rw [hw1] at raw1_b_0 raw1_b_1
  go_wp2_with fail
  rw [← hw1]
  clear hw1
  clear raw1_b_0 raw1_b_1
  refine (isConn_impl _ x k _ (rQ.mono h hb1)).mono ?_
  rintro e w2 ⟨rfl, z2⟩
  have s3 := z2.size
  have hb3 := on hb1 z2
  replace b_0 := (z2.cell (p := ⟨w.heap.size, 0, none⟩) (by simp only []; omega)).trans b_0
  replace b_1 := (z2.cell (p := ⟨w.heap.size, 1, none⟩) (by simp only []; omega)).trans b_1
  by_cases hv : isConn x k = true
  case neg =>
    replace hv : isConn x k = false := by simpa using hv
    have HE := Lib.hid (treesI_no hv)
    go_wp2_with fail
    go_ret
    exact ⟨ret_int HE.out.symm, hb3⟩
  obtain ⟨K, n, rfl, hq, hK, hK16, hK1, hcn, hok⟩ := isConn_facts hv
  have HE := Lib.hid (treesI_nat hv)
  have HJS := Lib.hid (joinSplits_yes hv)
  have HCN := Lib.hid hcn
  have HOK := Lib.hid hok
  clear hq hK hcn hok
  have hk1 : (K : Int) - 1 = ((K - 1 : Nat) : Int) := by omega
  have hba := bits_and_nat K (K - 1) (by omega) (by omega)
  obtain ⟨P, hP⟩ : ∃ P, P = K &&& (K - 1) := ⟨_, rfl⟩
  rw [← hP] at hba
  have HV := Lib.hid hv
  by_cases hp : P = 0
  case pos =>
    subst hp
    have HE1 := Lib.hid (show treesI x (K : Int) = 1 by rw [HE.out, treesN_one HCN.out hP.symm]; rfl)
    clear hP
    go_wp2_with fail
    go_ret
    exact ⟨ret_int HE1.out.symm, hb3⟩
  have hpz : ((P : Int) == 0) = false := by rw [beq_eq_false_iff_ne]; omega
  have HS := Lib.hid (treesN_sum hK16 HCN.out (by rw [← hP]; exact hp))
  have HKN := Lib.hid hkN
  clear hP hp hkN
  go_wp2_with fail
  refine (joinSplits_impl _ x (K : Int) _ (rQ.mono h hb3)).mono ?_
  rintro e w8 ⟨u, rfl, ol, z8⟩
  clear hk1 hba hpz
  have s4 := z8.size
  have hb4 := on hb3 z8
  replace b_0 := (z8.cell (p := ⟨w.heap.size, 0, none⟩) (by simp only []; omega)).trans b_0
  replace b_1 := (z8.cell (p := ⟨w.heap.size, 1, none⟩) (by simp only []; omega)).trans b_1
  obtain ⟨a1, n1, c1, rfl⟩ := oI_form1 ol
  rw [HJS.out] at ol
  obtain ⟨l, hl⟩ : ∃ l, l = splitsTo x K (K - 1) := ⟨_, rfl⟩
  rw [← hl] at ol
  have HM : Hid (∀ v ∈ l, ∃ y : Nat, v = y ∧ 1 ≤ y ∧ y ≤ K - 1 ∧ splitB x K y = true) := Lib.hid (fun v hv9 => by rw [hl] at hv9; exact splitsTo_mem hv9)
  have HT : Hid (treesN x K = treesFrom x K (l.drop 0)) := Lib.hid (by rw [HS.out, hl]; rfl)
  have hTs := treesN_small x K hK16
  obtain ⟨T, hT⟩ : ∃ T, T = treesN x K := ⟨_, rfl⟩
  rw [← hT] at HT hTs
  have HET := Lib.hid (show treesI x (K : Int) = (T : Int) by rw [HE.out, hT])
  have i9 := rI_ints (ol.rd reads_I)
  have hln := i9.len
  have hnn := i9.small
  clear hl HS hT i9 HE HJS
  go_wp2_with fail
  go_loopw [5, 21] (fun s k wr => ∃ j S : Nat, j ≤ n1 ∧ k = .int .i64 j ∧ s = .int .i64 S ∧ Hid (T = S + treesFrom x K (l.drop j)) ∧ Below w8.heap.size w8 wr) (fun _ k _ => n1 - (intOf k).toNat)
  case atStart => exact ⟨0, 0, Nat.zero_le _, rfl, rfl, Lib.hid (by rw [HT.out]; simp), Below.refl _ _⟩
  case round =>
    obtain ⟨j, S, hj, rfl, rfl, hE, hdr⟩ := hrel
    have hlc := hdr
    have s5 := hdr.size
    have hb5 := on hb4 hdr
    replace b_0 := (hdr.cell (p := ⟨w.heap.size, 0, none⟩) (by simp only []; omega)).trans b_0
    replace b_1 := (hdr.cell (p := ⟨w.heap.size, 1, none⟩) (by simp only []; omega)).trans b_1
    replace ol := ol.below hdr (by omega)
    by_cases hlt : j < n1
    · obtain ⟨b2, o2, v, rfl, hc, hv9, _, _⟩ := (rI_ints (ol.rd reads_I)).get hlt
      obtain ⟨y, hvy, hy1, hyK, hsp⟩ := HM.out v (by rw [← hv9.out]; exact getD_mem' (by omega))
      subst hvy
      have hclt : b2 < wr.heap.size := cell_lt hc
      simp only [splitB, Bool.and_eq_true, decide_eq_true_eq] at hsp
      obtain ⟨hs1, hs2, hs3⟩ := hsp
      obtain ⟨R, hR⟩ : ∃ R, R = K - y := ⟨_, rfl⟩
      rw [← hR] at hs3
      have hR1 : 1 ≤ R ∧ R < K := by omega
      obtain ⟨hR1, hR2⟩ := hR1
      have hdf := andnot_int K hK16 y (by omega) hs1
      rw [← hR] at hdf
      have ha := isConn_part HOK.out hy1 (by omega) hs2
      have hb := isConn_part HOK.out hR1 (by omega) hs3
      have hc1 := fun W (hW : rQ.rep W [.int .i64 x.1, .slice ub un uc] x) => IH.out _ x (y : Int) W hW (by have := HKN.out; simp only [Int.toNat_natCast] at this ⊢; omega)
      have hc2 := fun W (hW : rQ.rep W [.int .i64 x.1, .slice ub un uc] x) => IH.out _ x (R : Int) W hW (by have := HKN.out; simp only [Int.toNat_natCast] at this ⊢; omega)
      rw [treesI_nat ha] at hc1
      rw [treesI_nat hb] at hc2
      have hA := treesN_small x y (by omega)
      have hB := treesN_small x R (by omega)
      have hst := treesFrom_at (q := x) (K := K) (by omega) hv9.out
      rw [← hR] at hst
      obtain ⟨A, hAe⟩ : ∃ A, A = treesN x y := ⟨_, rfl⟩
      obtain ⟨B, hBe⟩ : ∃ B, B = treesN x R := ⟨_, rfl⟩
      rw [← hAe] at hc1 hA hst
      rw [← hBe] at hc2 hB hst
      have hpr : (A : Int) * (B : Int) = ((A * B : Nat) : Int) := by simp
      have hsum : S + A * B ≤ T := by have h9 := hE.out; rw [hst] at h9; omega
      obtain ⟨M, hM⟩ : ∃ M, M = A * B := ⟨_, rfl⟩
      rw [← hM] at hpr hsum hst
      have HE2 : Hid (T = (S + M) + treesFrom x K (l.drop (j + 1))) := Lib.hid (by have h9 := hE.out; rw [hst] at h9; omega)
      have hw1 : IntKind.i64.wrap ((A : Int) * (B : Int)) = (M : Int) := by rw [hpr]; exact IntWalk.i64_in _ (by omega)
      have hw2 : IntKind.i64.wrap ((S : Int) + (M : Int)) = ((S + M : Nat) : Int) := by rw [IntWalk.i64_in _ (by omega)]; omega
      have HC1 := Lib.hid hc1
      have HC2 := Lib.hid hc2
      clear hc1 hc2 ha hb hs1 hs2 hs3 hR hAe hBe hM hst hpr hA hB hv9 hE
      have v0 : wr.cell? ⟨b2, o2 + j, none⟩ = some (.int .i64 y) := hc
      clear hc
      go_wp2_with fail
      go_region_held3 (fun W => W.cell? ⟨w.heap.size, 0, none⟩ = some (.int .i64 x.1) ∧ W.cell? ⟨w.heap.size, 1, none⟩ = some (.slice ub un uc) ∧ W.cell? ⟨b2, o2 + j, none⟩ = some (.int .i64 y)) (first | exact ⟨b_0, b_1, v0⟩ | assumption) (first | (go_at_call 18; (with_reducible refine (HC1.out _ (rQ.mono h hb5.drew)).mono ?_); rintro e w6 ⟨rfl, z6⟩; replace z6 : Below wr.heap.size wr w6 := on (Below.refl _ _).drew z6; have sz6 := z6.size; have hS6 := (⟨(z6.cell (p := ⟨w.heap.size, 0, none⟩) (by simp only []; omega)).trans b_0, (z6.cell (p := ⟨w.heap.size, 1, none⟩) (by simp only []; omega)).trans b_1, (z6.cell (p := ⟨b2, o2 + j, none⟩) (by simp only []; omega)).trans v0⟩ : (fun W => W.cell? ⟨w.heap.size, 0, none⟩ = some (.int .i64 x.1) ∧ W.cell? ⟨w.heap.size, 1, none⟩ = some (.slice ub un uc) ∧ W.cell? ⟨b2, o2 + j, none⟩ = some (.int .i64 y)) w6); have hx6 := on hb5 z6) | (go_at_call 18; (with_reducible refine (HC2.out _ (rQ.mono h hx6)).mono ?_); rintro e w7 ⟨rfl, z7⟩; have sz7 := z7.size; have hS7 := (⟨(z7.cell (p := ⟨w.heap.size, 0, none⟩) (by simp only []; omega)).trans hS6.1, (z7.cell (p := ⟨w.heap.size, 1, none⟩) (by simp only []; omega)).trans hS6.2.1, (z7.cell (p := ⟨b2, o2 + j, none⟩) (by simp only []; omega)).trans hS6.2.2⟩ : (fun W => W.cell? ⟨w.heap.size, 0, none⟩ = some (.int .i64 x.1) ∧ W.cell? ⟨w.heap.size, 1, none⟩ = some (.slice ub un uc) ∧ W.cell? ⟨b2, o2 + j, none⟩ = some (.int .i64 y)) w7); have hx7 := on hx6 z7))
      replace z6 : Below wr.heap.size wr w6 := z6
      replace z7 : Below w6.heap.size w6 w7 := z7
      clear hS6 hx6 hS7 hx7
      have s8 := z6.size
      have hb8 := on hb5 z6
      replace b_0 := (z6.cell (p := ⟨w.heap.size, 0, none⟩) (by simp only []; omega)).trans b_0
      replace b_1 := (z6.cell (p := ⟨w.heap.size, 1, none⟩) (by simp only []; omega)).trans b_1
      replace ol := ol.below z6 (by omega)
      replace hlc := on hlc z6
      replace v0 := (z6.cell (p := ⟨b2, o2 + j, none⟩) (by simp only []; omega)).trans v0
      have s9 := z7.size
      have hb9 := on hb8 z7
      replace b_0 := (z7.cell (p := ⟨w.heap.size, 0, none⟩) (by simp only []; omega)).trans b_0
      replace b_1 := (z7.cell (p := ⟨w.heap.size, 1, none⟩) (by simp only []; omega)).trans b_1
      replace ol := ol.below z7 (by omega)
      replace hlc := on hlc z7
      replace v0 := (z7.cell (p := ⟨b2, o2 + j, none⟩) (by simp only []; omega)).trans v0
      clear hw1 hw2 hdf
      go_wp2_with fail
      go_roundw
      case rel => exact ⟨j + 1, S + M, by omega, by go_num, by first | rfl | go_num, HE2, hlc⟩
      case measure => simp [intOf]; omega
    · have HEE : Hid (T = S) := Lib.hid (by rw [hE.out, treesFrom_end (by omega)]; rfl)
      clear hE HT hln
      go_wp2_with fail
      refine (maxZero _ _ _ _ (box_cell (i := 0) (Below.refl _ _) rfl) (box_cell (i := 1) (Below.refl _ _) rfl) (by omega)).mono ?_
      rintro e w' ⟨rfl, rfl⟩
      go_wp2_with fail
      go_ret
      exact ⟨ret_int (by rw [HET.out, HEE.out]), hb5.trans ((Below.refl _ _).alloc (by omega) _)⟩

theorem trees_impl (cs : List Value) (x : DQ) (k : Int) (w : World) (h : rQ.rep w cs x) :
    Calls Try.prog 18 #[.agg cs.toArray, .int .i64 k] w fun e w' => e = .returned (.int .i64 (treesI x k)) ∧ Below w.heap.size w w' :=
  trees_impl_aux (k.toNat + 1) cs x k w h (by omega)

set_option maxHeartbeats 4000000 in
theorem trees_spec_aux (N : Nat) : ∀ (cs : List Value) (x : DQ) (k : Int) (w : World) (h : rQ.rep w cs x), k.toNat < N →
    Calls Try.prog 17 #[.agg cs.toArray, .int .i64 k] w fun e w' => e = .returned (.int .i64 (treesI x k)) ∧ Below w.heap.size w w' := by
  induction N with
  | zero => intro cs x k w h hk; omega
  | succ N ih =>
  intro cs x k w h hkN
  obtain ⟨ub, un, uc, rfl⟩ := rQ_form h
  have IH := Lib.hid ih
  clear ih
  have hb0 : Below w.heap.size w w := Below.refl _ _
  go_enter Try.func17, Try.ntmps17
  obtain ⟨w1, hw1⟩ : ∃ W, W = w.alloc (.cells #[.int .i64 x.1, .slice ub un uc] 29) := ⟨_, rfl⟩
  have z1 : Below w.heap.size w w1 := by rw [hw1]; exact (Below.refl _ _).alloc (Nat.le_refl _) _
  have s1 : w1.heap.size = w.heap.size + 1 := by rw [hw1]; simp
  have hb1 := on hb0 z1
  have b_0 : w1.cell? ⟨w.heap.size, 0, none⟩ = some (.int .i64 x.1) := by rw [hw1]; exact box_cell (Below.refl _ _) rfl
  have b_1 : w1.cell? ⟨w.heap.size, 1, none⟩ = some (.slice ub un uc) := by rw [hw1]; exact box_cell (Below.refl _ _) rfl
  have raw1_b_0 := b_0
  have raw1_b_1 := b_1
  rw [hw1] at raw1_b_0 raw1_b_1
  go_wp2_with fail
  rw [← hw1]
  clear hw1
  clear raw1_b_0 raw1_b_1
  refine (isConn_spec _ x k _ (rQ.mono h hb1)).mono ?_
  rintro e w2 ⟨rfl, z2⟩
  have s3 := z2.size
  have hb3 := on hb1 z2
  replace b_0 := (z2.cell (p := ⟨w.heap.size, 0, none⟩) (by simp only []; omega)).trans b_0
  replace b_1 := (z2.cell (p := ⟨w.heap.size, 1, none⟩) (by simp only []; omega)).trans b_1
  by_cases hv : isConn x k = true
  case neg =>
    replace hv : isConn x k = false := by simpa using hv
    have HE := Lib.hid (treesI_no hv)
    go_wp2_with fail
    go_ret
    exact ⟨ret_int HE.out.symm, hb3⟩
  obtain ⟨K, n, rfl, hq, hK, hK16, hK1, hcn, hok⟩ := isConn_facts hv
  have HE := Lib.hid (treesI_nat hv)
  have HJS := Lib.hid (joinSplits_yes hv)
  have HCN := Lib.hid hcn
  have HOK := Lib.hid hok
  clear hq hK hcn hok
  have hk1 : (K : Int) - 1 = ((K - 1 : Nat) : Int) := by omega
  have hba := bits_and_nat K (K - 1) (by omega) (by omega)
  obtain ⟨P, hP⟩ : ∃ P, P = K &&& (K - 1) := ⟨_, rfl⟩
  rw [← hP] at hba
  have HV := Lib.hid hv
  go_wp2_with fail
  refine (joinSplits_spec _ x (K : Int) _ (rQ.mono h hb3)).mono ?_
  rintro e w8 ⟨u, rfl, ol, z8⟩
  obtain ⟨a1, n1, c1, rfl⟩ := oI_form1 ol
  have s4 := z8.size
  have hb4 := on hb3 z8
  replace b_0 := (z8.cell (p := ⟨w.heap.size, 0, none⟩) (by simp only []; omega)).trans b_0
  replace b_1 := (z8.cell (p := ⟨w.heap.size, 1, none⟩) (by simp only []; omega)).trans b_1
  by_cases hp : P = 0
  case pos =>
    subst hp
    have HE1 := Lib.hid (show treesI x (K : Int) = 1 by rw [HE.out, treesN_one HCN.out hP.symm]; rfl)
    clear hP
    go_wp2_with fail
    go_ret
    exact ⟨ret_int HE1.out.symm, hb4⟩
  have hpz : ((P : Int) == 0) = false := by rw [beq_eq_false_iff_ne]; omega
  have HS := Lib.hid (treesN_sum hK16 HCN.out (by rw [← hP]; exact hp))
  have HKN := Lib.hid hkN
  clear hP hp hkN
  go_wp2_with fail
  clear hk1 hba hpz
  rw [HJS.out] at ol
  obtain ⟨l, hl⟩ : ∃ l, l = splitsTo x K (K - 1) := ⟨_, rfl⟩
  rw [← hl] at ol
  have HM : Hid (∀ v ∈ l, ∃ y : Nat, v = y ∧ 1 ≤ y ∧ y ≤ K - 1 ∧ splitB x K y = true) := Lib.hid (fun v hv9 => by rw [hl] at hv9; exact splitsTo_mem hv9)
  have HT : Hid (treesN x K = treesFrom x K (l.drop 0)) := Lib.hid (by rw [HS.out, hl]; rfl)
  have hTs := treesN_small x K hK16
  obtain ⟨T, hT⟩ : ∃ T, T = treesN x K := ⟨_, rfl⟩
  rw [← hT] at HT hTs
  have HET := Lib.hid (show treesI x (K : Int) = (T : Int) by rw [HE.out, hT])
  have i9 := rI_ints (ol.rd reads_I)
  have hln := i9.len
  have hnn := i9.small
  clear hl HS hT i9 HE HJS
  go_loopw [6, 7] (fun s k wr => ∃ j S : Nat, j ≤ n1 ∧ k = .int .i64 j ∧ s = .int .i64 S ∧ Hid (T = S + treesFrom x K (l.drop j)) ∧ Below w8.heap.size w8 wr) (fun _ k _ => n1 - (intOf k).toNat)
  case atStart => exact ⟨0, 0, Nat.zero_le _, rfl, rfl, Lib.hid (by rw [HT.out]; simp), Below.refl _ _⟩
  case round =>
    obtain ⟨j, S, hj, rfl, rfl, hE, hdr⟩ := hrel
    have hlc := hdr
    have s5 := hdr.size
    have hb5 := on hb4 hdr
    replace b_0 := (hdr.cell (p := ⟨w.heap.size, 0, none⟩) (by simp only []; omega)).trans b_0
    replace b_1 := (hdr.cell (p := ⟨w.heap.size, 1, none⟩) (by simp only []; omega)).trans b_1
    replace ol := ol.below hdr (by omega)
    by_cases hlt : j < n1
    · obtain ⟨b2, o2, v, rfl, hc, hv9, _, _⟩ := (rI_ints (ol.rd reads_I)).get hlt
      obtain ⟨y, hvy, hy1, hyK, hsp⟩ := HM.out v (by rw [← hv9.out]; exact getD_mem' (by omega))
      subst hvy
      have hclt : b2 < wr.heap.size := cell_lt hc
      simp only [splitB, Bool.and_eq_true, decide_eq_true_eq] at hsp
      obtain ⟨hs1, hs2, hs3⟩ := hsp
      obtain ⟨R, hR⟩ : ∃ R, R = K - y := ⟨_, rfl⟩
      rw [← hR] at hs3
      have hR1 : 1 ≤ R ∧ R < K := by omega
      obtain ⟨hR1, hR2⟩ := hR1
      have hdf : IntKind.i64.wrap ((K : Int) - (y : Int)) = (R : Int) := by rw [show (K : Int) - (y : Int) = (R : Int) by omega]; exact IntWalk.i64_in _ (by omega)
      have ha := isConn_part HOK.out hy1 (by omega) hs2
      have hb := isConn_part HOK.out hR1 (by omega) hs3
      have hc1 := fun W (hW : rQ.rep W [.int .i64 x.1, .slice ub un uc] x) => IH.out _ x (y : Int) W hW (by have := HKN.out; simp only [Int.toNat_natCast] at this ⊢; omega)
      have hc2 := fun W (hW : rQ.rep W [.int .i64 x.1, .slice ub un uc] x) => IH.out _ x (R : Int) W hW (by have := HKN.out; simp only [Int.toNat_natCast] at this ⊢; omega)
      rw [treesI_nat ha] at hc1
      rw [treesI_nat hb] at hc2
      have hA := treesN_small x y (by omega)
      have hB := treesN_small x R (by omega)
      have hst := treesFrom_at (q := x) (K := K) (by omega) hv9.out
      rw [← hR] at hst
      obtain ⟨A, hAe⟩ : ∃ A, A = treesN x y := ⟨_, rfl⟩
      obtain ⟨B, hBe⟩ : ∃ B, B = treesN x R := ⟨_, rfl⟩
      rw [← hAe] at hc1 hA hst
      rw [← hBe] at hc2 hB hst
      have hpr : (A : Int) * (B : Int) = ((A * B : Nat) : Int) := by simp
      have hsum : S + A * B ≤ T := by have h9 := hE.out; rw [hst] at h9; omega
      obtain ⟨M, hM⟩ : ∃ M, M = A * B := ⟨_, rfl⟩
      rw [← hM] at hpr hsum hst
      have HE2 : Hid (T = (S + M) + treesFrom x K (l.drop (j + 1))) := Lib.hid (by have h9 := hE.out; rw [hst] at h9; omega)
      have hw1 : IntKind.i64.wrap ((A : Int) * (B : Int)) = (M : Int) := by rw [hpr]; exact IntWalk.i64_in _ (by omega)
      have hw2 : IntKind.i64.wrap ((S : Int) + (M : Int)) = ((S + M : Nat) : Int) := by rw [IntWalk.i64_in _ (by omega)]; omega
      have HC1 := Lib.hid hc1
      have HC2 := Lib.hid hc2
      clear hc1 hc2 ha hb hs1 hs2 hs3 hR hAe hBe hM hst hpr hA hB hv9 hE
      have v0 : wr.cell? ⟨b2, o2 + j, none⟩ = some (.int .i64 y) := hc
      clear hc
      go_wp2_with fail
      go_region_held3 (fun W => W.cell? ⟨w.heap.size, 0, none⟩ = some (.int .i64 x.1) ∧ W.cell? ⟨w.heap.size, 1, none⟩ = some (.slice ub un uc) ∧ W.cell? ⟨b2, o2 + j, none⟩ = some (.int .i64 y)) (first | exact ⟨b_0, b_1, v0⟩ | assumption) (first | (go_at_call 17; (with_reducible refine (HC1.out _ (rQ.mono h hb5.drew)).mono ?_); rintro e w6 ⟨rfl, z6⟩; replace z6 : Below wr.heap.size wr w6 := on (Below.refl _ _).drew z6; have sz6 := z6.size; have hS6 := (⟨(z6.cell (p := ⟨w.heap.size, 0, none⟩) (by simp only []; omega)).trans b_0, (z6.cell (p := ⟨w.heap.size, 1, none⟩) (by simp only []; omega)).trans b_1, (z6.cell (p := ⟨b2, o2 + j, none⟩) (by simp only []; omega)).trans v0⟩ : (fun W => W.cell? ⟨w.heap.size, 0, none⟩ = some (.int .i64 x.1) ∧ W.cell? ⟨w.heap.size, 1, none⟩ = some (.slice ub un uc) ∧ W.cell? ⟨b2, o2 + j, none⟩ = some (.int .i64 y)) w6); have hx6 := on hb5 z6) | (go_at_call 17; (with_reducible refine (HC2.out _ (rQ.mono h hx6)).mono ?_); rintro e w7 ⟨rfl, z7⟩; have sz7 := z7.size; have hS7 := (⟨(z7.cell (p := ⟨w.heap.size, 0, none⟩) (by simp only []; omega)).trans hS6.1, (z7.cell (p := ⟨w.heap.size, 1, none⟩) (by simp only []; omega)).trans hS6.2.1, (z7.cell (p := ⟨b2, o2 + j, none⟩) (by simp only []; omega)).trans hS6.2.2⟩ : (fun W => W.cell? ⟨w.heap.size, 0, none⟩ = some (.int .i64 x.1) ∧ W.cell? ⟨w.heap.size, 1, none⟩ = some (.slice ub un uc) ∧ W.cell? ⟨b2, o2 + j, none⟩ = some (.int .i64 y)) w7); have hx7 := on hx6 z7))
      replace z6 : Below wr.heap.size wr w6 := z6
      replace z7 : Below w6.heap.size w6 w7 := z7
      clear hS6 hx6 hS7 hx7
      have s8 := z6.size
      have hb8 := on hb5 z6
      replace b_0 := (z6.cell (p := ⟨w.heap.size, 0, none⟩) (by simp only []; omega)).trans b_0
      replace b_1 := (z6.cell (p := ⟨w.heap.size, 1, none⟩) (by simp only []; omega)).trans b_1
      replace ol := ol.below z6 (by omega)
      replace hlc := on hlc z6
      replace v0 := (z6.cell (p := ⟨b2, o2 + j, none⟩) (by simp only []; omega)).trans v0
      have s9 := z7.size
      have hb9 := on hb8 z7
      replace b_0 := (z7.cell (p := ⟨w.heap.size, 0, none⟩) (by simp only []; omega)).trans b_0
      replace b_1 := (z7.cell (p := ⟨w.heap.size, 1, none⟩) (by simp only []; omega)).trans b_1
      replace ol := ol.below z7 (by omega)
      replace hlc := on hlc z7
      replace v0 := (z7.cell (p := ⟨b2, o2 + j, none⟩) (by simp only []; omega)).trans v0
      clear hw1 hw2 hdf
      go_wp2_with fail
      go_roundw
      case rel => exact ⟨j + 1, S + M, by omega, by go_num, by first | rfl | go_num, HE2, hlc⟩
      case measure => simp [intOf]; omega
    · have HEE : Hid (T = S) := Lib.hid (by rw [hE.out, treesFrom_end (by omega)]; rfl)
      clear hE HT hln
      go_wp2_with fail
      go_ret
      exact ⟨ret_int (by rw [HET.out, HEE.out]), hb5⟩

theorem trees_spec (cs : List Value) (x : DQ) (k : Int) (w : World) (h : rQ.rep w cs x) :
    Calls Try.prog 17 #[.agg cs.toArray, .int .i64 k] w fun e w' => e = .returned (.int .i64 (treesI x k)) ∧ Below w.heap.size w w' :=
  trees_spec_aux (k.toNat + 1) cs x k w h (by omega)

end Go.Proofs.Ythhbmbkecaffeaa
