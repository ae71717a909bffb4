/- Contracts: powers, norms and integer roots. -/
import Derived.Test.YtogblmfmmlbahaaSeq
namespace Go.Proofs.Ytogblmfmmlbahaa
open Go.RowKit
set_option linter.unusedVariables false
set_option linter.unusedSimpArgs false

/-- n to the p-th. -/
def pw (n p : Nat) : Nat := n ^ p
theorem pw_zero (n : Nat) : pw n 0 = 1 := by simp [pw]
theorem pw_succ (n p : Nat) : pw n (p + 1) = pw n p * n := by simp [pw, Nat.pow_succ]
theorem pw_mono {a b : Nat} (p : Nat) (h : a ≤ b) : pw a p ≤ pw b p := Nat.pow_le_pow_left h p
theorem pw_ge (a p : Nat) (hp : 1 ≤ p) : a ≤ pw a p := by
  unfold pw
  cases a with
  | zero => exact Nat.zero_le _
  | succ a => exact Nat.le_self_pow (by omega) _
theorem pw_top {a p : Nat} (ha : a ≤ 1000001) (hp : p ≤ 3) : pw a p ≤ 1000003000003000001 := by
  refine Nat.le_trans (pw_mono p ha) ?_
  rcases (by omega : p = 0 ∨ p = 1 ∨ p = 2 ∨ p = 3) with rfl | rfl | rfl | rfl <;> decide
theorem pw_top2 {a p : Nat} (ha : a ≤ 1000001) (hp : p ≤ 2) : pw a p ≤ 1000002000001 := by
  refine Nat.le_trans (pw_mono p ha) ?_
  rcases (by omega : p = 0 ∨ p = 1 ∨ p = 2) with rfl | rfl | rfl <;> decide

set_option maxHeartbeats 400000 in
theorem power_any (a k : Int) (w : World) (ha : 0 ≤ a ∧ a ≤ 1000001) (hk : 0 ≤ k ∧ k ≤ 3) :
    Calls Try.prog 97 #[.int .i64 a, .int .i64 k] w fun e w' => e = .returned (.int .i64 (pw a.toNat k.toNat)) ∧ w = w' := by
  obtain ⟨A, rfl⟩ := Int.eq_ofNat_of_zero_le ha.1
  obtain ⟨K, rfl⟩ := Int.eq_ofNat_of_zero_le hk.1
  have hA : A ≤ 1000001 := by omega
  have hK : K ≤ 3 := by omega
  clear ha hk
  go_enter Try.func97, Try.ntmps97
  go_wp2
  go_loop [1, 5] (fun q s => ∃ (j y : Nat), j ≤ K ∧ q = .int .i64 ((K : Int) - j) ∧ s = .int .i64 y ∧ Hid (y = pw A j)) (fun q _ => (intOf q).toNat)
  case atStart => exact ⟨0, 1, Nat.zero_le _, by go_num, rfl, (pw_zero A).symm⟩
  case round =>
    obtain ⟨j, y, hj, rfl, rfl, hy⟩ := hrel
    by_cases hlt : j < K
    · have hb := pw_top (p := j + 1) hA (by omega)
      rw [pw_succ, ← hy.out] at hb
      have hb1 : (y : Int) * (A : Int) ≤ 1000003000003000001 := by have h3 := Int.ofNat_le.2 hb; rw [Int.natCast_mul] at h3; omega
      have hb0 : 0 ≤ (y : Int) * (A : Int) := by exact_mod_cast Nat.zero_le (y * A)
      clear hb
      have hgt : 0 < (K : Int) - j := by omega
      go_wp2
      go_round
      case rel => exact ⟨j + 1, y * A, by omega, by go_num, by go_num, by rw [Hid, pw_succ, hy.out]⟩
      case measure => simp [intOf]; omega
    · obtain rfl : j = K := by omega
      have HE := Lib.hid (show (y : Int) = (pw A j : Nat) by rw [hy.out])
      go_wp2
      go_ret
      exact ⟨ret_int (by rw [HE.out]; try rfl), rfl⟩

/-- The greatest r whose k-th power is no more than n. -/
def IsRoot (n k r : Nat) : Prop := pw r k ≤ n ∧ n < pw (r + 1) k
open Classical in
noncomputable def iroot (n k : Nat) : Nat := if h : ∃ r, IsRoot n k r then h.choose else 0
theorem root_one {n k r s : Nat} (h1 : IsRoot n k r) (h2 : IsRoot n k s) : r = s := by
  rcases Nat.lt_trichotomy r s with h | h | h
  · have := pw_mono k (show r + 1 ≤ s by omega); have := h1.2; have := h2.1; omega
  · exact h
  · have := pw_mono k (show s + 1 ≤ r by omega); have := h2.2; have := h1.1; omega
theorem iroot_eq {n k r : Nat} (h : IsRoot n k r) : iroot n k = r := by
  have hx : ∃ r, IsRoot n k r := ⟨r, h⟩
  unfold iroot
  rw [dif_pos hx]
  exact root_one hx.choose_spec h
noncomputable def rootOf (n k : Int) : Int := if betw n 0 1000000 && betw k 1 3 then (iroot n.toNat k.toNat : Int) else -1

set_option maxHeartbeats 400000 in
theorem root_impl (n k : Int) (w : World) :
    Calls Try.prog 57 #[.int .i64 n, .int .i64 k] w fun e w' => e = .returned (.int .i64 (rootOf n k)) ∧ w = w' := by
  by_cases hb : betw n 0 1000000 = true
  · by_cases hb2 : betw k 1 3 = true
    · have h1 := hb
      have h2 := hb2
      simp only [betw, Bool.and_eq_true, decide_eq_true_eq] at h1 h2
      obtain ⟨N, rfl⟩ := Int.eq_ofNat_of_zero_le h1.1
      obtain ⟨K, rfl⟩ := Int.eq_ofNat_of_zero_le (show 0 ≤ k by omega)
      have hN : N ≤ 1000000 := by omega
      have hK : 1 ≤ K ∧ K ≤ 3 := by omega
      have HT := Lib.hid (show rootOf N K = (iroot N K : Int) by simp [rootOf, hb, hb2])
      clear h1 h2
      go_enter Try.func57, Try.ntmps57
      go_wp2_with (go_at_call 74; refine (within_any _ _ _ _).mono ?_; rintro e w' ⟨rfl, rfl⟩)
      go_loop [5] (fun q => ∃ (r : Nat), r ≤ N ∧ q = .int .i64 r ∧ Hid (pw r K ≤ N)) (fun q => N - (intOf q).toNat)
      case atStart => exact ⟨0, Nat.zero_le _, rfl, by unfold Hid pw; rw [Nat.zero_pow (by omega)]; omega⟩
      case round =>
        obtain ⟨r, hr, rfl, hE⟩ := hrel
        obtain ⟨p, hp⟩ : ∃ p, p = pw (r + 1) K := ⟨_, rfl⟩
        have Hp := Lib.hid hp
        have hge := pw_ge (r + 1) K hK.1
        rw [← hp] at hge
        have hcall := power_any ((r : Int) + 1) (K : Int) w ⟨by omega, by omega⟩ ⟨by omega, by omega⟩
        rw [show ((r : Int) + 1).toNat = r + 1 by omega, Int.toNat_natCast, ← hp] at hcall
        have HC := Lib.hid hcall
        clear hp hcall
        by_cases hle : p ≤ N
        · go_wp2_with (go_at_call 97; refine HC.out.mono ?_; rintro e w' ⟨rfl, rfl⟩)
          go_round
          case rel => exact ⟨r + 1, by omega, by go_num, by rw [Hid, ← Hp.out]; exact hle⟩
          case measure => simp [intOf]; omega
        · have HE := Lib.hid (show (r : Int) = rootOf N K by rw [HT.out, iroot_eq ⟨hE.out, by rw [← Hp.out]; omega⟩])
          go_wp2_with (go_at_call 97; refine HC.out.mono ?_; rintro e w' ⟨rfl, rfl⟩)
          go_ret
          exact ⟨ret_int HE.out, rfl⟩
    · replace hb2 : betw k 1 3 = false := by simpa using hb2
      have HE := Lib.hid (show -1 = rootOf n k by simp [rootOf, hb2])
      go_enter Try.func57, Try.ntmps57
      go_wp2_with (go_at_call 74; refine (within_any _ _ _ _).mono ?_; rintro e w' ⟨rfl, rfl⟩)
      go_ret
      exact ⟨ret_int HE.out, rfl⟩
  · replace hb : betw n 0 1000000 = false := by simpa using hb
    have HE := Lib.hid (show -1 = rootOf n k by simp [rootOf, hb])
    go_enter Try.func57, Try.ntmps57
    go_wp2_with (go_at_call 74; refine (within_any _ _ _ _).mono ?_; rintro e w' ⟨rfl, rfl⟩)
    go_ret
    exact ⟨ret_int HE.out, rfl⟩

set_option maxHeartbeats 400000 in
theorem root_spec (n k : Int) (w : World) :
    Calls Try.prog 54 #[.int .i64 n, .int .i64 k] w fun e w' => e = .returned (.int .i64 (rootOf n k)) ∧ w = w' := by
  by_cases hb : betw n 0 1000000 = true
  · by_cases hb2 : betw k 1 3 = true
    · have h1 := hb
      have h2 := hb2
      simp only [betw, Bool.and_eq_true, decide_eq_true_eq] at h1 h2
      obtain ⟨N, rfl⟩ := Int.eq_ofNat_of_zero_le h1.1
      obtain ⟨K, rfl⟩ := Int.eq_ofNat_of_zero_le (show 0 ≤ k by omega)
      have hN : N ≤ 1000000 := by omega
      have hK : 1 ≤ K ∧ K ≤ 3 := by omega
      have HT := Lib.hid (show rootOf N K = (iroot N K : Int) by simp [rootOf, hb, hb2])
      clear h1 h2
      by_cases hk1 : K = 1
      · subst hk1
        have HE := Lib.hid (show (N : Int) = rootOf N (1 : Nat) by rw [HT.out, iroot_eq (r := N) ⟨by simp [pw], by simp [pw]⟩])
        go_enter Try.func54, Try.ntmps54
        go_wp2_with (go_at_call 71; refine (l1In_any _ _ _ _).mono ?_; rintro e w' ⟨rfl, rfl⟩)
        go_ret
        exact ⟨ret_int HE.out, rfl⟩
      · have hne : ((K : Int) == 1) = false := by rw [beq_eq_false_iff_ne]; omega
        go_enter Try.func54, Try.ntmps54
        go_wp2_with (go_at_call 71; refine (l1In_any _ _ _ _).mono ?_; rintro e w' ⟨rfl, rfl⟩)
        go_loop [5, 6, 7] (fun q _ _ => ∃ (r : Nat), r ≤ N ∧ q = .int .i64 r ∧ Hid (pw r K ≤ N)) (fun q _ _ => N - (intOf q).toNat)
        case atStart => exact ⟨0, Nat.zero_le _, rfl, by unfold Hid pw; rw [Nat.zero_pow (by omega)]; omega⟩
        case round =>
          obtain ⟨r, hr, rfl, hE⟩ := hrel
          go_wp2
          go_loop [6, 7] (fun x i => ∃ (j y : Nat), j ≤ K ∧ i = .int .i64 j ∧ x = .int .i64 y ∧ Hid (y = pw (r + 1) j)) (fun _ i => K - (intOf i).toNat)
          case atStart => exact ⟨0, 1, Nat.zero_le _, rfl, rfl, (pw_zero _).symm⟩
          case round =>
            obtain ⟨j, y, hj, rfl, rfl, hy⟩ := hrel
            by_cases hlt : j < K
            · have hb := pw_top (a := r + 1) (p := j + 1) (by omega) (by omega)
              rw [pw_succ, ← hy.out] at hb
              have hb1 : (y : Int) * ((r : Int) + 1) ≤ 1000003000003000001 := by have h3 := Int.ofNat_le.2 hb; rw [Int.natCast_mul, Int.natCast_add] at h3; exact h3
              have hb0 : 0 ≤ (y : Int) * ((r : Int) + 1) := by exact_mod_cast Nat.zero_le (y * (r + 1))
              clear hb
              go_wp2
              go_round
              case rel => exact ⟨j + 1, y * (r + 1), by omega, by go_num, by go_num, by rw [Hid, pw_succ, hy.out]⟩
              case measure => simp [intOf]; omega
            · obtain rfl : j = K := by omega
              by_cases hle : y ≤ N
              · have HE := Lib.hid (show pw (r + 1) j ≤ N by rw [← hy.out]; exact hle)
                have hge := pw_ge (r + 1) j hK.1
                have hr1 : r + 1 ≤ N := by have := HE.out; omega
                clear hge
                go_wp2
                go_round
                case rel => exact ⟨r + 1, hr1, by go_num, HE.out⟩
                case measure => simp [intOf]; omega
              · have HE := Lib.hid (show (r : Int) = rootOf N j by rw [HT.out, iroot_eq ⟨hE.out, by rw [← hy.out]; omega⟩])
                go_wp2
                go_ret
                exact ⟨ret_int HE.out, rfl⟩
    · replace hb2 : betw k 1 3 = false := by simpa using hb2
      have HE := Lib.hid (show -1 = rootOf n k by simp [rootOf, hb2])
      go_enter Try.func54, Try.ntmps54
      go_wp2_with (go_at_call 71; refine (l1In_any _ _ _ _).mono ?_; rintro e w' ⟨rfl, rfl⟩)
      go_ret
      exact ⟨ret_int HE.out, rfl⟩
  · replace hb : betw n 0 1000000 = false := by simpa using hb
    have HE := Lib.hid (show -1 = rootOf n k by simp [rootOf, hb])
    go_enter Try.func54, Try.ntmps54
    go_wp2_with (go_at_call 71; refine (l1In_any _ _ _ _).mono ?_; rintro e w' ⟨rfl, rfl⟩)
    go_ret
    exact ⟨ret_int HE.out, rfl⟩

/-- The sum of the p-th powers of a degree sequence. -/
def pwSum (xs : List Int) (p : Nat) : Nat := (xs.map fun x => pw x.toNat p).sum
def normOf (xs : List Int) (p : Int) : Int := if betw p 1 3 && isDeg xs then (pwSum xs p.toNat : Int) else 0
theorem pwSum_snoc (xs : List Int) (j p : Nat) (x : Int) (h : j < xs.length) (hx : xs.getD j 0 = x) : pwSum (xs.take (j + 1)) p = pwSum (xs.take j) p + pw x.toNat p := by
  rw [take_snoc xs j h, hx]; simp [pwSum]
theorem pwSum_le (p : Nat) (hp : p ≤ 3) : ∀ (xs : List Int), (∀ x ∈ xs, 1 ≤ x ∧ x ≤ 8) → pwSum xs p ≤ 512 * xs.length
  | [], _ => by simp [pwSum]
  | x :: xs, h => by
    have ih := pwSum_le p hp xs (fun z hz => h z (List.mem_cons_of_mem _ hz))
    have hx := h x (List.mem_cons_self ..)
    have h1 : pw x.toNat p ≤ 512 := by
      refine Nat.le_trans (pw_mono p (show x.toNat ≤ 8 by omega)) ?_
      rcases (by omega : p = 0 ∨ p = 1 ∨ p = 2 ∨ p = 3) with rfl | rfl | rfl | rfl <;> decide
    simp only [pwSum, List.map_cons, List.sum_cons, List.length_cons] at ih ⊢
    omega
theorem norm_rng (xs : List Int) (p : Int) : 0 ≤ normOf xs p ∧ normOf xs p ≤ 4096 := by
  unfold normOf
  by_cases h : (betw p 1 3 && isDeg xs) = true
  · rw [if_pos h]
    simp only [Bool.and_eq_true, betw, decide_eq_true_eq] at h
    have h1 := pwSum_le p.toNat (by omega) xs (isDeg_mem h.2)
    have h2 := isDeg_len h.2
    omega
  · rw [if_neg h]; omega

set_option maxHeartbeats 400000 in
theorem norm_impl (a : Option Addr) (n cap : Nat) (xs : List Int) (p : Int) (w : World) (h : Ints w a n xs) :
    Calls Try.prog 58 #[.slice a n cap, .int .i64 p] w fun e w' => e = .returned (.int .i64 (normOf xs p)) ∧ w = w' := by
  have hl := h.len
  by_cases hb : betw p 1 3 = true
  · by_cases hd : isDeg xs = true
    · have h1 := hb
      simp only [betw, Bool.and_eq_true, decide_eq_true_eq] at h1
      obtain ⟨K, rfl⟩ := Int.eq_ofNat_of_zero_le (show 0 ≤ p by omega)
      have hK : 1 ≤ K ∧ K ≤ 3 := by omega
      have hn8 := isDeg_len hd
      have HT := Lib.hid (show normOf xs K = (pwSum xs K : Int) by simp [normOf, hb, hd])
      clear h1
      go_enter Try.func58, Try.ntmps58
      go_wp2_with (first | (go_at_call 74; refine (within_any _ _ _ _).mono ?_; rintro e w' ⟨rfl, rfl⟩) | (go_at_call 56; refine (isDeg_impl _ _ _ _ _ h).mono ?_; rintro e w' ⟨rfl, rfl⟩))
      go_loop [5, 7, 18] (fun s _ i => ∃ (j y : Nat), j ≤ n ∧ i = .int .i64 j ∧ s = .int .i64 y ∧ y ≤ 512 * j ∧ Hid (y = pwSum (xs.take j) K)) (fun _ _ i => n - (intOf i).toNat)
      case atStart => exact ⟨0, 0, Nat.zero_le _, rfl, rfl, by omega, by simp [Hid, pwSum]⟩
      case round =>
        obtain ⟨j, y, hj, rfl, rfl, hy0, hy⟩ := hrel
        by_cases hlt : j < n
        · obtain ⟨b, off, x, rfl, hc, hx, hx1, hx2⟩ := h.get hlt
          have hm := isDeg_mem hd x (by rw [← hx.out]; exact getD_mem (by omega))
          have hcall := power_any x (K : Int) w ⟨by omega, by omega⟩ ⟨by omega, by omega⟩
          rw [Int.toNat_natCast] at hcall
          obtain ⟨q, hq⟩ : ∃ q, q = pw x.toNat K := ⟨_, rfl⟩
          rw [← hq] at hcall
          have hq1 : q ≤ 512 := by
            have h1 := pwSum_le K hK.2 [x] (by simpa using hm)
            simpa [pwSum, hq] using h1
          have HC := Lib.hid hcall
          have HE := Lib.hid (show y + q = pwSum (xs.take (j + 1)) K by rw [pwSum_snoc xs j K x (by omega) hx.out, hy.out, hq])
          clear hq hcall h
          go_wp2_with (go_at_call 97; refine HC.out.mono ?_; rintro e w' ⟨rfl, rfl⟩)
          go_round
          case rel => exact ⟨j + 1, y + q, by omega, by go_num, by go_num, by omega, HE⟩
          case measure => simp [intOf]; omega
        · have HE := Lib.hid (show (y : Int) = normOf xs K by rw [HT.out, hy.out, List.take_of_length_le (by omega)])
          clear h
          go_wp2
          go_ret
          exact ⟨ret_int HE.out, rfl⟩
    · replace hd : isDeg xs = false := by simpa using hd
      have HE := Lib.hid (show 0 = normOf xs p by simp [normOf, hd])
      go_enter Try.func58, Try.ntmps58
      go_wp2_with (first | (go_at_call 74; refine (within_any _ _ _ _).mono ?_; rintro e w' ⟨rfl, rfl⟩) | (go_at_call 56; refine (isDeg_impl _ _ _ _ _ h).mono ?_; rintro e w' ⟨rfl, rfl⟩))
      go_ret
      exact ⟨ret_int HE.out, rfl⟩
  · replace hb : betw p 1 3 = false := by simpa using hb
    have HE := Lib.hid (show 0 = normOf xs p by simp [normOf, hb])
    go_enter Try.func58, Try.ntmps58
    go_wp2_with (first | (go_at_call 74; refine (within_any _ _ _ _).mono ?_; rintro e w' ⟨rfl, rfl⟩))
    go_ret
    exact ⟨ret_int HE.out, rfl⟩

set_option maxHeartbeats 400000 in
theorem norm_spec (a : Option Addr) (n cap : Nat) (xs : List Int) (p : Int) (w : World) (h : Ints w a n xs) :
    Calls Try.prog 55 #[.slice a n cap, .int .i64 p] w fun e w' => e = .returned (.int .i64 (normOf xs p)) ∧ Drew w w' := by
  have hl := h.len
  have hn := h.small
  by_cases hg : betw p 1 3 = true ∧ isDeg xs = true
  · obtain ⟨hb, hd⟩ := hg
    have h1 := hb
    simp only [betw, Bool.and_eq_true, decide_eq_true_eq] at h1
    obtain ⟨K, rfl⟩ := Int.eq_ofNat_of_zero_le (show 0 ≤ p by omega)
    have hK : 1 ≤ K ∧ K ≤ 3 := by omega
    have hn8 := isDeg_len hd
    have HT := Lib.hid (show normOf xs K = (pwSum xs K : Int) by simp [normOf, hb, hd])
    clear h1
    go_enter Try.func55, Try.ntmps55
    go_wp2_with fail
    go_loopw [5, 6, 7, 8] (fun s i _ _ wr => ∃ (j y : Nat), j ≤ n ∧ i = .int .i64 j ∧ s = .int .i64 y ∧ y ≤ 512 * j ∧ Hid (y = pwSum (xs.take j) K) ∧ Drew w wr) (fun _ i _ _ _ => n - (intOf i).toNat)
    case atStart => exact ⟨0, 0, Nat.zero_le _, rfl, rfl, by omega, by simp [Hid, pwSum], Drew.refl _⟩
    case round =>
      obtain ⟨j, y, hj, rfl, rfl, hy0, hy, hdr⟩ := hrel
      replace h := h.drew hdr
      by_cases hlt : j < n
      · have h' := h
        obtain ⟨b, off, x, rfl, hc, hx, hx1, hx2⟩ := h.get hlt
        have hm := isDeg_mem hd x (by rw [← hx.out]; exact getD_mem (by omega))
        obtain ⟨X, rfl⟩ := Int.eq_ofNat_of_zero_le (show 0 ≤ x by omega)
        have hX : 1 ≤ X ∧ X ≤ 8 := by omega
        have hq1 : pw X K ≤ 512 := by
          have h1 := pwSum_le K hK.2 [(X : Int)] (by simpa using hm)
          simpa [pwSum] using h1
        have HE := Lib.hid (show y + pw X K = pwSum (xs.take (j + 1)) K by rw [pwSum_snoc xs j K X (by omega) hx.out, hy.out, Int.toNat_natCast])
        have HQ := Lib.hid hq1
        clear h hq1
        go_wp2_with (first | (go_at_call 53; refine (isDeg_spec _ _ _ _ _ h').mono ?_; rintro e w3 ⟨rfl, ⟨q1, rfl⟩⟩) | (go_at_call 71; refine (l1In_any _ _ _ _).mono ?_; rintro e w' ⟨rfl, rfl⟩))
        go_loop [7, 8] (fun x i => ∃ (l z : Nat), l ≤ K ∧ i = .int .i64 l ∧ x = .int .i64 z ∧ Hid (z = pw X l)) (fun _ i => K - (intOf i).toNat)
        case atStart => exact ⟨0, 1, Nat.zero_le _, rfl, rfl, (pw_zero _).symm⟩
        case round =>
          obtain ⟨l, z, hl', rfl, rfl, hz⟩ := hrel
          by_cases hlk : l < K
          · have hb := pw_top (a := X) (p := l + 1) (by omega) (by omega)
            rw [pw_succ, ← hz.out] at hb
            have hb1 : (z : Int) * (X : Int) ≤ 1000003000003000001 := by have h3 := Int.ofNat_le.2 hb; rw [Int.natCast_mul] at h3; exact h3
            have hb0 : 0 ≤ (z : Int) * (X : Int) := by exact_mod_cast Nat.zero_le (z * X)
            clear hb
            go_wp2
            go_round
            case rel => exact ⟨l + 1, z * X, by omega, by go_num, by go_num, by rw [Hid, pw_succ, hz.out]⟩
            case measure => simp [intOf]; omega
          · obtain rfl : l = K := by omega
            have hz1 : z ≤ 512 := by rw [hz.out]; exact HQ.out
            have HE' := Lib.hid (show y + z = pwSum (xs.take (j + 1)) l by rw [hz.out]; exact HE.out)
            clear HE
            go_wp2
            go_roundw
            case rel => exact ⟨j + 1, y + z, by omega, by go_num, by go_num, by omega, HE', hdr.step _⟩
            case measure => simp [intOf]; omega
      · have HE := Lib.hid (show (y : Int) = normOf xs K by rw [HT.out, hy.out, List.take_of_length_le (by omega)])
        clear h
        go_wp2
        go_ret
        exact ⟨ret_int HE.out, hdr⟩
  · have HE := Lib.hid (show 0 = normOf xs p by
      unfold normOf
      rw [if_neg]; simpa using hg)
    go_enter Try.func55, Try.ntmps55
    go_wp2_with fail
    go_loopw [5, 6, 7, 8] (fun s i _ _ wr => i = .int .i64 0 ∧ s = .int .i64 0 ∧ wr = w) (fun _ _ _ _ _ => 0)
    case atStart => exact ⟨rfl, rfl, rfl⟩
    case round =>
      obtain ⟨rfl, rfl, rfl⟩ := hrel
      by_cases hlt : 0 < n
      · by_cases hd : isDeg xs = true
        · have hb : betw p 1 3 = false := by simpa [hd] using hg
          clear hg
          go_wp2_with (first | (go_at_call 53; refine (isDeg_spec _ _ _ _ _ h).mono ?_; rintro e w3 ⟨rfl, ⟨q1, rfl⟩⟩) | (go_at_call 71; refine (l1In_any _ _ _ _).mono ?_; rintro e w' ⟨rfl, rfl⟩))
          go_ret
          exact ⟨ret_int HE.out, _, rfl⟩
        · replace hd : isDeg xs = false := by simpa using hd
          clear hg
          go_wp2_with (first | (go_at_call 53; refine (isDeg_spec _ _ _ _ _ h).mono ?_; rintro e w3 ⟨rfl, ⟨q1, rfl⟩⟩) | (go_at_call 71; refine (l1In_any _ _ _ _).mono ?_; rintro e w' ⟨rfl, rfl⟩))
          go_ret
          exact ⟨ret_int HE.out, _, rfl⟩
      · clear hg
        go_wp2
        go_ret
        exact ⟨ret_int HE.out, Drew.refl _⟩

end Go.Proofs.Ytogblmfmmlbahaa
