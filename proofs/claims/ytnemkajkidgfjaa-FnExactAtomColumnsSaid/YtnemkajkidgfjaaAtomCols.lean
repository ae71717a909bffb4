/- Contracts: the columns of an atom that belong to some variables. -/
import Derived.Test.YtnemkajkidgfjaaHas
import Derived.Test.YtnemkajkidgfjaaKAtom
namespace Go.Proofs.Ytnemkajkidgfjaa
open Go.RowKit
set_option linter.unusedVariables false
set_option linter.unusedSimpArgs false

/-- The places of an atom's variables that are among some. -/
def colsOf (vars xs : List Int) : Nat → List Int
  | 0 => []
  | j + 1 => colsOf vars xs j ++ (if has vars (xs.getD j 0) then [(j : Int)] else [])
theorem colsOf_len (vars xs : List Int) : ∀ j, (colsOf vars xs j).length ≤ j
  | 0 => by simp [colsOf]
  | j + 1 => by have := colsOf_len vars xs j; simp only [colsOf, List.length_append]; split <;> simp <;> omega
theorem colsOf_yes {vars xs : List Int} {j : Nat} {x : Int} (hx : xs.getD j 0 = x) (h : has vars x = true) : colsOf vars xs (j + 1) = colsOf vars xs j ++ [(j : Int)] := by rw [colsOf, hx, h]; rfl
theorem colsOf_no {vars xs : List Int} {j : Nat} {x : Int} (hx : xs.getD j 0 = x) (h : has vars x = false) : colsOf vars xs (j + 1) = colsOf vars xs j := by rw [colsOf, hx, h]; simp

set_option maxHeartbeats 800000 in
theorem atomCols_spec (s : ByteArray) (a b : Option Addr) (n m cap cap' : Nat) (xs vs : List Int) (w : World) (h : Ints w a n xs) (h' : Ints w b m vs) (hn : n ≤ 100000000) :
    Calls Try.prog 45 #[.agg #[.string s, .slice a n cap], .slice b m cap'] w fun e w' => ∃ b n' c, e = .returned (.slice b n' c) ∧ OwnInts w.heap.size w' (.slice b n' c) n' (colsOf vs xs n) ∧ Below w.heap.size w w' := by
  go_enter Try.func45, Try.ntmps45
  go_wp2_with fail
  go_loopw [5, 6] (fun v i wr => ∃ (j : Nat), j ≤ n ∧ i = .int .i64 j ∧ ∃ q, OwnInts (w.heap.size + 1) wr v q (colsOf vs xs j) ∧ Below (w.heap.size + 1) (w.alloc (.cells #[.string s, .slice a n cap] 43)) wr) (fun _ i _ => n - (intOf i).toNat)
  case atStart => exact ⟨0, Nat.zero_le _, rfl, 0, by have h0 := own_empty (B := w.heap.size + 1) (W := w.alloc (.cells #[.string s, .slice a n cap] 43)) (by simp); simpa [colsOf] using h0, (Below.refl _ _).alloc (by simp) _⟩
  case round =>
    obtain ⟨j, hj, rfl, q, hown, hbl⟩ := hrel
    have hsz := hbl.size
    have hc1 := box_cell (i := 1) hbl rfl
    have hbw : Below w.heap.size w wr := ((Below.refl _ _).alloc (Nat.le_refl _) _).trans (hbl.mono (by omega))
    rw [World.size_alloc] at hsz
    replace h := h.below hbw
    replace h' := h'.below hbw
    have hq : q ≤ 100000000 := by have := hown.len; have := colsOf_len vs xs j; omega
    by_cases hlt : j < n
    · obtain ⟨b1, off, x, rfl, hc, hx, hx1, hx2⟩ := h.get hlt
      have hcall := fun W (hW : Ints W b m vs) => l7Has_any b m cap' vs x W hW
      obtain ⟨t, ht⟩ : ∃ t, t = has vs x := ⟨_, rfl⟩
      rw [← ht] at hcall
      have HC := Lib.hid hcall
      clear hcall
      cases t with
      | true =>
        have HB := Lib.hid (colsOf_yes hx.out ht.symm)
        clear ht h hbw
        go_wp2_with (first
          | (go_at_call 57; refine (HC.out _ h').mono ?_; rintro e w' ⟨rfl, rfl⟩)
          | (at_builtin; refine wpList_app1 _ _ _ _ _ _ hown hbl hsz ⟨by omega, by omega⟩ (by omega) rfl rfl rfl rfl ?_; intro v' w1 hown' hb' hsz'))
        rw [← HB.out] at hown'
        go_roundw
        case rel => exact ⟨j + 1, by omega, by go_num, q + 1, hown', hb'⟩
        case measure => simp [intOf]; omega
      | false =>
        rw [← colsOf_no hx.out ht.symm] at hown
        have HO := Lib.hid hown
        clear ht h hown hbw
        go_wp2_with (first
          | (go_at_call 57; refine (HC.out _ h').mono ?_; rintro e w' ⟨rfl, rfl⟩))
        go_roundw
        case rel => exact ⟨j + 1, by omega, by go_num, q, HO.out, hbl⟩
        case measure => simp [intOf]; omega
    · obtain rfl : j = n := by omega
      obtain ⟨a', cap2, rfl, _⟩ := own_form hown.row
      have HO := Lib.hid (show OwnInts w.heap.size wr _ q _ from hown.base (Nat.le_succ _))
      clear hown h h'
      go_wp2
      go_ret
      exact ⟨_, _, _, rfl, HO.out, hbw⟩

set_option maxHeartbeats 800000 in
theorem atomCols_impl (s : ByteArray) (a b : Option Addr) (n m cap cap' : Nat) (xs vs : List Int) (w : World) (h : Ints w a n xs) (h' : Ints w b m vs) (hn : n ≤ 100000000) :
    Calls Try.prog 47 #[.agg #[.string s, .slice a n cap], .slice b m cap'] w fun e w' => ∃ b n' c, e = .returned (.slice b n' c) ∧ OwnInts w.heap.size w' (.slice b n' c) n' (colsOf vs xs n) ∧ Below w.heap.size w w' := by
  go_enter Try.func47, Try.ntmps47
  go_wp2_with fail
  go_loopw [5, 6, 7, 12] (fun v _ _ i wr => ∃ (j : Nat), j ≤ n ∧ i = .int .i64 j ∧ ∃ q, OwnInts (w.heap.size + 1) wr v q (colsOf vs xs j) ∧ Below (w.heap.size + 1) (w.alloc (.cells #[.string s, .slice a n cap] 43)) wr) (fun _ _ _ i _ => n - (intOf i).toNat)
  case atStart => exact ⟨0, Nat.zero_le _, rfl, 0, by have h0 := own_empty (B := w.heap.size + 1) (W := w.alloc (.cells #[.string s, .slice a n cap] 43)) (by simp); simpa [colsOf] using h0, (Below.refl _ _).alloc (by simp) _⟩
  case round =>
    obtain ⟨j, hj, rfl, q, hown, hbl⟩ := hrel
    have hsz := hbl.size
    have hc1 := box_cell (i := 1) hbl rfl
    have hbw : Below w.heap.size w wr := ((Below.refl _ _).alloc (Nat.le_refl _) _).trans (hbl.mono (by omega))
    rw [World.size_alloc] at hsz
    replace h := h.below hbw
    replace h' := h'.below hbw
    have hq : q ≤ 100000000 := by have := hown.len; have := colsOf_len vs xs j; omega
    by_cases hlt : j < n
    · obtain ⟨b1, off, x, rfl, hc, hx, hx1, hx2⟩ := h.get hlt
      have hcall := fun W (hW : Ints W b m vs) => contains_any b m cap' vs x W hW
      obtain ⟨t, ht⟩ : ∃ t, t = has vs x := ⟨_, rfl⟩
      rw [← ht] at hcall
      have HC := Lib.hid hcall
      clear hcall
      cases t with
      | true =>
        have HB := Lib.hid (colsOf_yes hx.out ht.symm)
        clear ht h hbw
        go_wp2_with (first
          | (go_at_call 58; refine (HC.out _ h').mono ?_; rintro e w' ⟨rfl, rfl⟩)
          | (at_builtin; refine wpList_app1 _ _ _ _ _ _ hown hbl hsz ⟨by omega, by omega⟩ (by omega) rfl rfl rfl rfl ?_; intro v' w1 hown' hb' hsz'))
        rw [← HB.out] at hown'
        go_roundw
        case rel => exact ⟨j + 1, by omega, by go_num, q + 1, hown', hb'⟩
        case measure => simp [intOf]; omega
      | false =>
        rw [← colsOf_no hx.out ht.symm] at hown
        have HO := Lib.hid hown
        clear ht h hown hbw
        go_wp2_with (first
          | (go_at_call 58; refine (HC.out _ h').mono ?_; rintro e w' ⟨rfl, rfl⟩))
        go_roundw
        case rel => exact ⟨j + 1, by omega, by go_num, q, HO.out, hbl⟩
        case measure => simp [intOf]; omega
    · obtain rfl : j = n := by omega
      obtain ⟨a', cap2, rfl, _⟩ := own_form hown.row
      have HO := Lib.hid (show OwnInts w.heap.size wr _ q _ from hown.base (Nat.le_succ _))
      clear hown h h'
      go_wp2
      go_ret
      exact ⟨_, _, _, rfl, HO.out, hbw⟩


/-- The columns of an atom that belong to some variables. -/
def atomCols (x : DAtom) (vs : List Int) : List Int := colsOf vs x.2 x.2.length

theorem atomCols_spec' (cs : List Value) (v : Value) (x : DAtom) (vs : List Int) (w : World) (h : rA.rep w cs x) (h' : rI.rep w [v] vs) (hn : bulk_A x ≤ 1048576) :
    Calls Try.prog 45 #[.agg cs.toArray, v] w fun e w' => ∃ u, e = .returned u ∧ Own oI w.heap.size w'.heap.size w' [u] (atomCols x vs) ∧ Below w.heap.size w w' := by
  obtain ⟨s, xs⟩ := x
  obtain ⟨u, rfl, _, hi⟩ := rA_open h
  obtain ⟨a, cap, rfl, _, _, hi⟩ := rI_open hi
  obtain ⟨b, cap', rfl, _, _, hi'⟩ := rI_open h'
  simp only [bulk_A, bulk_I] at hn
  exact (atomCols_spec s a b _ _ cap cap' xs vs w hi hi' (show xs.length ≤ 100000000 by omega)).mono fun e w' ⟨b, n, c, he, ho, hb⟩ => ⟨_, he, ho.own, hb⟩
theorem atomCols_impl' (cs : List Value) (v : Value) (x : DAtom) (vs : List Int) (w : World) (h : rA.rep w cs x) (h' : rI.rep w [v] vs) (hn : bulk_A x ≤ 1048576) :
    Calls Try.prog 47 #[.agg cs.toArray, v] w fun e w' => ∃ u, e = .returned u ∧ Own oI w.heap.size w'.heap.size w' [u] (atomCols x vs) ∧ Below w.heap.size w w' := by
  obtain ⟨s, xs⟩ := x
  obtain ⟨u, rfl, _, hi⟩ := rA_open h
  obtain ⟨a, cap, rfl, _, _, hi⟩ := rI_open hi
  obtain ⟨b, cap', rfl, _, _, hi'⟩ := rI_open h'
  simp only [bulk_A, bulk_I] at hn
  exact (atomCols_impl s a b _ _ cap cap' xs vs w hi hi' (show xs.length ≤ 100000000 by omega)).mono fun e w' ⟨b, n, c, he, ho, hb⟩ => ⟨_, he, ho.own, hb⟩

end Go.Proofs.Ytnemkajkidgfjaa
