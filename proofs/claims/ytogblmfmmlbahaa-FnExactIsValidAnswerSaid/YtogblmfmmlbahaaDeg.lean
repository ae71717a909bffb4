/- Contracts: ranges, and what a degree sequence is. -/
import Derived.Test.YtogblmfmmlbahaaProg
import Derived.Test.YtogblmfmmlbahaaBase
namespace Go.Proofs.Ytogblmfmmlbahaa
open Go.RowKit
set_option linter.unusedVariables false
set_option linter.unusedSimpArgs false

def betw (n a b : Int) : Bool := decide (a ≤ n) && decide (n ≤ b)

theorem within_any (n a b : Int) (w : World) :
    Calls Try.prog 74 #[.int .i64 n, .int .i64 a, .int .i64 b] w fun e w' => e = .returned (.bool (betw n a b)) ∧ w = w' := by
  go_enter Try.func74, Try.ntmps74
  go_wp2
  all_goals go_ret
  all_goals (unfold betw; simp [*])
  exact fun h => by omega

/-- Whether the rest of a list may follow: each from 1 to what is left, none above its predecessor. -/
def degFrom (left prev : Int) : List Int → Bool
  | [] => true
  | d :: t => (betw d 1 left && decide (d ≤ prev)) && degFrom (left - d) d t

def isDeg (xs : List Int) : Bool := degFrom 8 8 xs

theorem deg_no {left prev x : Int} {t : List Int} (h : betw x 1 left = false) : degFrom left prev (x :: t) = false := by simp [degFrom, h]
theorem deg_up {left prev x : Int} {t : List Int} (h : ¬ x ≤ prev) : degFrom left prev (x :: t) = false := by simp [degFrom, h]
theorem deg_on {left prev x : Int} {t : List Int} (h : betw x 1 left = true) (h' : x ≤ prev) : degFrom left prev (x :: t) = degFrom (left - x) x t := by simp [degFrom, h, h']

set_option maxHeartbeats 400000 in
theorem isDeg_impl (a : Option Addr) (n cap : Nat) (xs : List Int) (w : World) (h : Ints w a n xs) :
    Calls Try.prog 56 #[.slice a n cap] w fun e w' => e = .returned (.bool (isDeg xs)) ∧ w = w' := by
  have hn := h.small
  have hl := h.len
  go_enter Try.func56, Try.ntmps56
  go_wp2
  go_loop [3, 4, 5, 8] (fun l _ _ k => ∃ (j : Nat) (left prev : Int), j ≤ n ∧ k = .int .i64 j ∧ l = .int .i64 left ∧ 0 ≤ left ∧ left ≤ 8 ∧
      (j = 0 → left ≤ prev) ∧ (0 < j → prev = xs.getD (j - 1) 0) ∧ Hid (isDeg xs = degFrom left prev (xs.drop j)))
    (fun _ _ _ k => n - (intOf k).toNat)
  case atStart => exact ⟨0, 8, 8, Nat.zero_le _, rfl, rfl, by omega, by omega, by omega, by omega, rfl⟩
  case round =>
    obtain ⟨j, left, prev, hj, rfl, rfl, hl0, hl8, hp0, hp1, hE⟩ := hrel
    by_cases hlt : j < n
    · obtain ⟨b, off, x, rfl, hc, hx, hx1, hx2⟩ := h.get hlt
      have HD : Hid (isDeg xs = degFrom left prev (x :: xs.drop (j + 1))) := by
        rw [hE.out, drop_cons xs j (by omega), hx.out]; exact rfl
      clear hl hE
      by_cases hb : 1 ≤ x ∧ x ≤ left
      · have hbH := Lib.hid (show betw x 1 left = true by unfold betw; simp [hb.1, hb.2])
        obtain ⟨hb1, hb2⟩ := hb
        have hbt := hbH.out
        by_cases h0 : j = 0
        · subst h0
          clear h
          simp only [Nat.add_zero] at hc
          have hpx : x ≤ prev := by have := hp0 rfl; omega
          clear hp0 hp1
          go_wp2_with (go_at_call 74; refine (within_any _ _ _ _).mono ?_; rintro e w' ⟨rfl, rfl⟩)
          go_round
          case rel => exact ⟨1, left - x, x, by omega, by go_num, rfl, by omega, by omega, by omega, fun _ => hx.out.symm, (HD.out.trans (deg_on hbH.out hpx) : _)⟩
          case measure => simp [intOf]; omega
        · obtain ⟨b', off', y, hab, hcy, hy, hy1, hy2⟩ := h.get (k := j - 1) (by omega)
          obtain ⟨rfl, rfl⟩ : b = b' ∧ off = off' := by simpa using hab
          obtain rfl : prev = y := by rw [hp1 (by omega), hy.out]
          clear h hab hp0 hp1
          by_cases hyx : x ≤ prev
          · go_wp2_with (go_at_call 74; refine (within_any _ _ _ _).mono ?_; rintro e w' ⟨rfl, rfl⟩)
            go_round
            case rel => exact ⟨j + 1, left - x, x, by omega, by go_num, rfl, by omega, by omega, by omega, fun _ => hx.out.symm, (HD.out.trans (deg_on hbH.out hyx) : _)⟩
            case measure => simp [intOf]; omega
          · have hfin := Lib.hid (HD.out.trans (deg_up hyx))
            go_wp2_with (go_at_call 74; refine (within_any _ _ _ _).mono ?_; rintro e w' ⟨rfl, rfl⟩)
            go_ret
            exact ⟨ret_bool hfin.out.symm, rfl⟩
      · have hbt : betw x 1 left = false := by unfold betw; simp; omega
        have hfin := Lib.hid (HD.out.trans (deg_no hbt))
        clear h
        go_wp2_with (go_at_call 74; refine (within_any _ _ _ _).mono ?_; rintro e w' ⟨rfl, rfl⟩)
        go_ret
        exact ⟨ret_bool hfin.out.symm, rfl⟩
    · have hfin := Lib.hid (hE.out.trans (by rw [List.drop_of_length_le (by omega)]; rfl : _ = true))
      go_wp2
      go_ret
      exact ⟨ret_bool hfin.out.symm, rfl⟩

theorem l1In_any (n a b : Int) (w : World) :
    Calls Try.prog 71 #[.int .i64 n, .int .i64 a, .int .i64 b] w fun e w' => e = .returned (.bool (betw n a b)) ∧ w = w' := by
  go_enter Try.func71, Try.ntmps71
  go_wp2
  all_goals go_ret
  all_goals (unfold betw; simp [*])
  exact fun h => by omega

set_option maxHeartbeats 400000 in
theorem isDeg_spec (a : Option Addr) (n cap : Nat) (xs : List Int) (w : World) (h : Ints w a n xs) :
    Calls Try.prog 53 #[.slice a n cap] w fun e w' => e = .returned (.bool (isDeg xs)) ∧ Drew w w' := by
  have hn := h.small
  have hl := h.len
  go_enter Try.func53, Try.ntmps53
  go_wp2
  go_loopw [3, 4] (fun s k wr => ∃ (j : Nat) (left prev : Int), j ≤ n ∧ k = .int .i64 j ∧ s = .int .i64 (8 - left) ∧ 0 ≤ left ∧ left ≤ 8 ∧
      (j = 0 → left ≤ prev) ∧ (0 < j → prev = xs.getD (j - 1) 0) ∧ Hid (isDeg xs = degFrom left prev (xs.drop j)) ∧ Drew w wr)
    (fun _ k _ => n - (intOf k).toNat)
  case atStart => exact ⟨0, 8, 8, Nat.zero_le _, rfl, rfl, by omega, by omega, by omega, by omega, rfl, Drew.refl _⟩
  case round =>
    obtain ⟨j, left, prev, hj, rfl, rfl, hl0, hl8, hp0, hp1, hE, hdr⟩ := hrel
    replace h := h.drew hdr
    by_cases hlt : j < n
    · obtain ⟨b, off, x, rfl, hc, hx, hx1, hx2⟩ := h.get hlt
      have HD : Hid (isDeg xs = degFrom left prev (x :: xs.drop (j + 1))) := by
        rw [hE.out, drop_cons xs j (by omega), hx.out]; exact rfl
      clear hl hE
      by_cases hb : 1 ≤ x ∧ x ≤ left
      · have hbH := Lib.hid (show betw x 1 left = true by unfold betw; simp [hb.1, hb.2])
        obtain ⟨hb1, hb2⟩ := hb
        have hbt := hbH.out
        by_cases h0 : j = 0
        · have hpx : x ≤ prev := by have := hp0 h0; omega
          have H0 := Lib.hid h0
          clear hp0 hp1 h h0
          have hg : decide (0 < j) = false := by simp; exact H0.out
          have hw : IntKind.i64.wrap (8 - (8 - left)) = left := by rw [IntWalk.i64_in _ (by omega)]; omega
          go_wp2
          go_quiet ((go_at_call 71; exact quiet_same (l1In_any _ _ _ _)))
          go_wp2
          go_roundw
          case rel => exact ⟨j + 1, left - x, x, by omega, by go_num, by go_num, by omega, by omega, by omega, fun _ => hx.out.symm, (HD.out.trans (deg_on hbH.out hpx) : _), hdr.step _⟩
          case measure => simp [intOf]; omega
        · obtain ⟨b', off', y, hab, hcy, hy, hy1, hy2⟩ := h.get (k := j - 1) (by omega)
          obtain ⟨rfl, rfl⟩ : b = b' ∧ off = off' := by simpa using hab
          obtain rfl : prev = y := by rw [hp1 (by omega), hy.out]
          clear h hab hp0 hp1
          have hg : decide (0 < j) = true := by simp; omega
          have hw : IntKind.i64.wrap (8 - (8 - left)) = left := by rw [IntWalk.i64_in _ (by omega)]; omega
          have hw2 : IntKind.i64.wrap ((j : Int) - 1) = (j : Int) - 1 := IntWalk.i64_in _ (by omega)
          have hw3 : ((j : Int) - 1).toNat = j - 1 := by omega
          have hw4 : 0 ≤ (j : Int) - 1 := by omega
          have hw5 : 1 ≤ (j : Int) := by omega
          by_cases hyx : x ≤ prev
          · go_wp2
            go_quiet ((go_at_call 71; exact quiet_same (l1In_any _ _ _ _)))
            go_wp2
            go_roundw
            case rel => exact ⟨j + 1, left - x, x, by omega, by go_num, by go_num, by omega, by omega, by omega, fun _ => hx.out.symm, (HD.out.trans (deg_on hbH.out hyx) : _), hdr.step _⟩
            case measure => simp [intOf]; omega
          · have hfin := Lib.hid (HD.out.trans (deg_up hyx))
            go_wp2
            go_quiet ((go_at_call 71; exact quiet_same (l1In_any _ _ _ _)))
            go_wp2
            go_ret
            exact ⟨ret_bool hfin.out.symm, hdr.step _⟩
      · have hbt : betw x 1 left = false := by unfold betw; simp; omega
        have hfin := Lib.hid (HD.out.trans (deg_no hbt))
        clear h
        have hw : IntKind.i64.wrap (8 - (8 - left)) = left := by rw [IntWalk.i64_in _ (by omega)]; omega
        go_wp2
        go_quiet ((go_at_call 71; exact quiet_same (l1In_any _ _ _ _)))
        go_wp2
        go_ret
        exact ⟨ret_bool hfin.out.symm, hdr.step _⟩
    · have hfin := Lib.hid (hE.out.trans (by rw [List.drop_of_length_le (by omega)]; rfl : _ = true))
      go_wp2
      go_ret
      exact ⟨ret_bool hfin.out.symm, hdr⟩

end Go.Proofs.Ytogblmfmmlbahaa
