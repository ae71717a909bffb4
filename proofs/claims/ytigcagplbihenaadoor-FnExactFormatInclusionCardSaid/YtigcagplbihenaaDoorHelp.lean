/- Contracts: the laws' own helpers on slices of ints: copying, comparing, marking, looking for the marks. -/
import Derived.Test.YtigcagplbihenaaDoorBase
namespace Go.Proofs.YtigcagplbihenaaDoor
open Go.RowKit
set_option linter.unusedVariables false
set_option linter.unusedSimpArgs false

/-- The first k are copied, the rest is nought yet. -/
def copied (xs : List Int) (n k : Nat) : List Int := xs.take k ++ List.replicate (n - k) 0

theorem copied_step (xs : List Int) (n k : Nat) (hn : xs.length = n) (hk : k < n) : (copied xs n k).set k (xs.getD k 0) = copied xs n (k + 1) := by
  unfold copied
  rw [take_snoc xs k (by omega), List.set_append_right _ _ (by simp; omega)]
  rw [show k - (xs.take k).length = 0 by simp; omega, show n - k = (n - (k + 1)) + 1 by omega, List.replicate_succ]
  simp

set_option maxHeartbeats 400000 in
theorem toIntS_any (a : Option Addr) (n cap : Nat) (xs : List Int) (w : World) (h : Ints w a n xs) (hsm : n ≤ 1000000000000) :
    Calls Tryd.prog 64 #[.slice a n cap] w fun e w' => ∃ b c, e = .returned (.slice b n c) ∧ OwnInts w.heap.size w' (.slice b n c) n xs ∧ Below w.heap.size w w' := by
  have hl := h.len
  have hrng := h.rng
  go_enter Tryd.func64, Tryd.ntmps64
  go_wp2_with (at_make; refine wpList_mk _ _ n hsm rfl rfl rfl rfl ?_; intro w1 hown1 hb1 hz1)
  go_wp2
  go_loopw [4] (fun k wr => ∃ j : Nat, j ≤ n ∧ k = .int .i64 j ∧ wr.ownsRow w.heap.size 3 1 (.slice (some ⟨w.heap.size, 0, none⟩) n n) n ((copied xs n j).map (Value.int .i64)) ∧ Below w.heap.size w wr)
    (fun k _ => n - (intOf k).toNat)
  case atStart => exact ⟨0, Nat.zero_le _, rfl, hown1, hb1⟩
  case round =>
    obtain ⟨j, hj, rfl, hown, hb⟩ := hrel
    clear hown1 hb1
    have hn := h.small
    by_cases hlt : j < n
    · replace h := h.below hb
      obtain ⟨b, off, x, rfl, hc, hx, hx1, hx2⟩ := h.get hlt
      have hst := hown.stored j (.int .i64 x)
      have hfz := hown.frozenAt j
      obtain ⟨u, hu⟩ : ∃ u, wr.cell? ⟨w.heap.size, j, none⟩ = some u := by
        rw [hown.cellAt j (by omega)]; exact ⟨_, List.getElem?_eq_getElem (by have := hown.1; omega)⟩
      have HO : Hid ((wr.setCell ⟨w.heap.size, j, none⟩ (.int .i64 x)).ownsRow w.heap.size 3 1 (.slice (some ⟨w.heap.size, 0, none⟩) n n) n ((copied xs n (j + 1)).map (Value.int .i64))) := by
        have e : (copied xs n (j + 1)).map (Value.int .i64) = ((copied xs n j).map (Value.int .i64)).set j (.int .i64 x) := by
          rw [← copied_step xs n j hl hlt, ← hx.out, List.map_set]
        rw [e]; exact hst.1
      clear hst hown h hl
      go_wp2
      go_roundw
      case rel => exact ⟨j + 1, by omega, by go_num, HO.out, hb.setCell (Nat.le_refl _) _⟩
      case measure => simp [intOf]; omega
    · have e : copied xs n j = xs := by
        unfold copied
        rw [List.take_of_length_le (by omega), show n - j = 0 by omega]; simp
      have HO := Lib.hid (show OwnInts w.heap.size wr (.slice (some ⟨w.heap.size, 0, none⟩) n n) n xs from ⟨hl, by rw [← e]; exact hown, hrng⟩)
      clear hown e h hl
      go_wp2
      go_ret
      exact ⟨_, _, rfl, HO.out, hb⟩

theorem take_same {xs ys : List Int} {k : Nat} (h1 : k < xs.length) (h2 : k < ys.length) (he : xs.take k = ys.take k) (hx : xs.getD k 0 = ys.getD k 0) : xs.take (k + 1) = ys.take (k + 1) := by
  rw [take_snoc xs k h1, take_snoc ys k h2, he, hx]

set_option maxHeartbeats 400000 in
theorem eqIntS_any (a b : Option Addr) (n m cap cap' : Nat) (xs ys : List Int) (w : World) (h : Ints w a n xs) (h' : Ints w b m ys) :
    Calls Tryd.prog 68 #[.slice a n cap, .slice b m cap'] w fun e w' => e = .returned (.bool (decide (xs = ys))) ∧ Drew w w' := by
  have hl := h.len
  have hl' := h'.len
  have hn := h.small
  have hn' := h'.small
  by_cases hnm : n = m
  · subst hnm
    go_enter Tryd.func68, Tryd.ntmps68
    go_wp2
    go_loopw [5] (fun k wr => ∃ j : Nat, j ≤ n ∧ k = .int .i64 j ∧ Hid (xs.take j = ys.take j) ∧ Drew w wr) (fun k _ => n - (intOf k).toNat)
    case atStart => exact ⟨0, Nat.zero_le _, rfl, rfl, Drew.refl _⟩
    case round =>
      obtain ⟨j, hj, rfl, hE, hdr⟩ := hrel
      replace h := h.drew hdr
      replace h' := h'.drew hdr
      by_cases hlt : j < n
      · obtain ⟨b1, o1, x, rfl, hc, hx, hx1, hx2⟩ := h.get hlt
        obtain ⟨b2, o2, y, rfl, hc', hy, hy1, hy2⟩ := h'.get hlt
        by_cases hxy : x = y
        · have HE := Lib.hid (take_same (by omega) (by omega) hE.out ((hx.out.trans hxy).trans hy.out.symm))
          subst hxy
          clear h h' hl hl'
          go_wp2
          go_quiet (fail)
          go_wp2
          go_roundw
          case rel => exact ⟨j + 1, by omega, by go_num, HE.out, hdr.step _⟩
          case measure => simp [intOf]; omega
        · have hne : (x != y) = true := bne_iff_ne.2 hxy
          have HE := Lib.hid (show decide (xs = ys) = false by
            simp only [decide_eq_false_iff_not]; intro e; subst e; exact hxy (hx.out.symm.trans hy.out))
          clear h h' hl hl'
          go_wp2
          go_quiet (fail)
          go_wp2
          go_ret
          exact ⟨ret_bool HE.out.symm, hdr.step _⟩
      · have HE := Lib.hid (show decide (xs = ys) = true by
          have e := hE.out
          rw [List.take_of_length_le (by omega), List.take_of_length_le (by omega)] at e
          simp [e])
        clear h h' hl hl'
        go_wp2
        go_ret
        exact ⟨ret_bool HE.out.symm, hdr⟩
  · have HE := Lib.hid (show decide (xs = ys) = false by
      simp only [decide_eq_false_iff_not]; intro e; subst e; omega)
    have hne : ((n : Int) != (m : Int)) = true := by rw [bne_iff_ne]; omega
    clear hl hl' h h'
    go_enter Tryd.func68, Tryd.ntmps68
    go_wp2
    go_ret
    exact ⟨ret_bool HE.out.symm, Drew.refl _⟩

/-- The marks k, k + 1, .. in n places. -/
def marks (k : Int) (n : Nat) : List Int := (List.range n).map fun i : Nat => k + (i : Int)
theorem marks_length (k : Int) (n : Nat) : (marks k n).length = n := by simp [marks]
theorem marks_get (k : Int) (n i : Nat) (h : i < n) : (marks k n).getD i 0 = k + i := by simp [marks, h]
theorem marks_rng (k : Int) (n : Nat) (h0 : 0 ≤ k) (h1 : k ≤ 1000000000000) (h2 : n ≤ 1000000000000) : AllI64 (marks k n) := by
  intro x hx
  simp only [marks, List.mem_map, List.mem_range] at hx
  obtain ⟨i, hi, rfl⟩ := hx
  constructor <;> omega
/-- The first j are marked, the rest reads as it did. -/
def marked (k : Int) (xs : List Int) (j : Nat) : List Int := marks k j ++ xs.drop j
theorem marked_step (k : Int) (xs : List Int) (j : Nat) (h : j < xs.length) : (marked k xs j).set j (k + j) = marked k xs (j + 1) := by
  unfold marked
  rw [List.set_append_right _ _ (by simp [marks]), drop_cons xs j h]
  simp [marks, List.range_succ]
theorem marked_all (k : Int) (xs : List Int) : marked k xs xs.length = marks k xs.length := by simp [marked]

set_option maxHeartbeats 400000 in
theorem markIntS_any (lo hi : Nat) (a : Option Addr) (n cap : Nat) (xs : List Int) (k : Int) (w : World) (h : OwnInts lo w (.slice a n cap) n xs) (hb : ∀ x, a = some x → x.block < hi)
    (k0 : 0 ≤ k) (k1 : k ≤ 1000000000000) (hsm : n ≤ 1000000000000) :
    Calls Tryd.prog 72 #[.slice a n cap, .int .i64 k] w fun e w' => e = .returned (.int .i64 (k + n)) ∧ OwnInts lo w' (.slice a n cap) n (marks k n) ∧ Kept lo hi w w' := by
  have hl := h.len
  have hrow := h.row
  clear h
  go_enter Tryd.func72, Tryd.ntmps72
  go_wp2
  go_loopw [1, 5] (fun q i wr => ∃ j : Nat, j ≤ n ∧ i = .int .i64 j ∧ q = .int .i64 (k + j) ∧ wr.ownsRow lo 3 1 (.slice a n cap) n ((marked k xs j).map (Value.int .i64)) ∧ Kept lo hi w wr)
    (fun _ i _ => n - (intOf i).toNat)
  case atStart => exact ⟨0, Nat.zero_le _, rfl, by simp, by simpa [marked, marks] using hrow, Kept.refl _ _ _⟩
  case round =>
    obtain ⟨j, hj, rfl, rfl, hown, hk⟩ := hrel
    clear hrow
    by_cases hlt : j < n
    · obtain ⟨g, rfl, hlo, hc, hfz⟩ := own_cells hown j hlt
      have hhi := hb _ rfl
      have hst := hown.stored j (.int .i64 (k + j))
      obtain ⟨u, hu⟩ : ∃ u, wr.cell? ⟨g, j, none⟩ = some u := by
        rw [hc]; exact ⟨_, List.getElem?_eq_getElem (by have := hown.1; omega)⟩
      have HO : Hid ((wr.setCell ⟨g, j, none⟩ (.int .i64 (k + j))).ownsRow lo 3 1 (.slice (some ⟨g, 0, none⟩) n cap) n ((marked k xs (j + 1)).map (Value.int .i64))) := by
        rw [← marked_step k xs j (by omega), List.map_set]; exact hst.1
      clear hst hown hl hb hc
      go_wp2
      go_roundw
      case rel => exact ⟨j + 1, by omega, by go_num, by go_num, HO.out, hk.setCell (p := ⟨g, j, none⟩) hlo hhi _⟩
      case measure => simp [intOf]; omega
    · obtain rfl : j = n := by omega
      have HO := Lib.hid (show OwnInts lo wr (.slice a j cap) j (marks k j) from ⟨marks_length _ _, by rw [← hl, marked_all] at hown; rw [← hl] ; exact hown, marks_rng _ _ k0 k1 hsm⟩)
      clear hown hl hb
      go_wp2
      go_ret
      exact ⟨rfl, HO.out, hk⟩

set_option maxHeartbeats 400000 in
theorem heldIntS_any (a : Option Addr) (n cap : Nat) (k : Int) (w : World) (h : Ints w a n (marks k n)) (k0 : 0 ≤ k) (k1 : k ≤ 1000000000000) (hsm : n ≤ 1000000000000) :
    Calls Tryd.prog 73 #[.slice a n cap, .int .i64 k] w fun e w' => e = .returned (.int .i64 (k + n)) ∧ w = w' := by
  go_enter Tryd.func73, Tryd.ntmps73
  go_wp2
  go_loop [1, 5] (fun q i => ∃ j : Nat, j ≤ n ∧ i = .int .i64 j ∧ q = .int .i64 (k + j)) (fun _ i => n - (intOf i).toNat)
  case atStart => exact ⟨0, Nat.zero_le _, rfl, by simp⟩
  case round =>
    obtain ⟨j, hj, rfl, rfl⟩ := hrel
    by_cases hlt : j < n
    · obtain ⟨b, o, x, rfl, hc, hx, hx1, hx2⟩ := h.get hlt
      obtain rfl : k + j = x := by rw [← hx.out, marks_get _ _ _ hlt]
      clear h hx
      go_wp2
      go_round
      case rel => exact ⟨j + 1, by omega, by go_num, by go_num⟩
      case measure => simp [intOf]; omega
    · obtain rfl : j = n := by omega
      clear h
      go_wp2
      go_ret
      exact ⟨rfl, rfl⟩

end Go.Proofs.YtigcagplbihenaaDoor
