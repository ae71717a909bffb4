/- Texts joined for one claim: SortI. -/
import Derived.Test.YtpgfkjcekhifiaaGreatDoorQ6218e9c564
import Derived.Test.YtpgfkjcekhifiaaGreatDoorQe58ef1fdfa
import Derived.Sort.OwnSortedInts
import Derived.Lib.SlicesCompact

namespace Go.Proofs.YtpgfkjcekhifiaaGreatDoor

open Go.RowKit Go.Sort

set_option linter.unusedVariables false

set_option linter.unusedSimpArgs false

theorem ownI_open {lo hi : Nat} {w : World} {v : Value} {xs : List Int} (h : Own oI lo hi w [v] xs) : (v = .slice none 0 0 ∧ xs = []) ∨ ∃ g c cur, v = .slice (some ⟨g, 0, none⟩) xs.length c ∧ lo ≤ g ∧ g < hi ∧ w.heap[g]? = some (.cells cur 3 (0, 0)) ∧ xs.length ≤ c ∧ c ≤ maxLen ∧ cur.size = c ∧ cur.toList.take xs.length = xs.map (Value.int .i64) ∧ AllI64 xs := by
  obtain ⟨fp, hr, hn, hb⟩ := h
  obtain ⟨a, cap, hv, ho, rfl⟩ := oI_own hr
  simp only [List.cons.injEq, and_true] at hv
  subst hv
  rcases ho.row.2 with ⟨hv, h0⟩ | ⟨g, c, cur, hv, _, hg, hnc, hcm, hcs, htk⟩
  · simp at hv
    exact .inl ⟨by simp [hv.1, hv.2.1, hv.2.2], List.eq_nil_of_length_eq_zero h0⟩
  · simp at hv
    obtain ⟨rfl, rfl⟩ := hv
    have := hb g (by simp [bl, Value.ownBlock])
    exact .inr ⟨g, cap, cur, rfl, this.1, this.2, hg, hnc, hcm, by omega, by simpa using htk, ho.rng⟩

theorem ownI_close {lo hi g c : Nat} {w : World} {xs : List Int} {cur : Array Value} (hb : w.heap[g]? = some (.cells cur 3 (0, 0))) (h1 : xs.length ≤ c) (h2 : c ≤ maxLen) (h3 : cur.size = c) (h4 : cur.toList.take xs.length = xs.map (Value.int .i64)) (hr : AllI64 xs) (hlo : lo ≤ g) (hhi : g < hi) :
    Own oI lo hi w [.slice (some ⟨g, 0, none⟩) xs.length c] xs := by
  have h : OwnInts lo w (.slice (some ⟨g, 0, none⟩) xs.length c) xs.length xs := ⟨rfl, ⟨by simp, .inr ⟨g, c, cur, rfl, hlo, hb, h1, h2, by omega, by simpa using h4⟩⟩, hr⟩
  refine ⟨bl (.slice (some ⟨g, 0, none⟩) xs.length c), own_oI h, by simp [bl, Value.ownBlock], fun k hk => ?_⟩
  simp [bl, Value.ownBlock] at hk
  omega

theorem ownI_len {lo hi g c n : Nat} {w : World} {xs : List Int} (h : Own oI lo hi w [.slice (some ⟨g, 0, none⟩) xs.length c] xs) (e : xs.length = n) : Own oI lo hi w [.slice (some ⟨g, 0, none⟩) n c] xs := by
  subst e; exact h

theorem below_row {lo g n : Nat} {w : World} (os : Array Obj) (d : Array Int) (hl : lo ≤ w.heap.size) (hlo : lo ≤ g) : Below lo w (grow (putRow (Value.int .i64) (Sort.ahead w n) g 0 d) os) :=
  grown_below (Below.refl lo w) hl (grownBy_sortedI d) (fun k hk => by simp at hk; omega)

def sortL (xs : List Int) : List Int := xs.mergeSort fun x y => decide (x ≤ y)

theorem sortL_len (xs : List Int) : (sortL xs).length = xs.length := by simp [sortL]

theorem sortL_rng {xs : List Int} (h : AllI64 xs) : AllI64 (sortL xs) := fun x hx => h x (by simpa [sortL] using hx)

theorem sortL_pair (xs : List Int) : (sortL xs).Pairwise (· ≤ ·) := by
  have := List.pairwise_mergeSort (le := fun x y : Int => decide (x ≤ y)) (by intro a b c; simp; omega) (by intro a b; simp; omega) xs
  exact this.imp fun h => by simpa using h

theorem sortI_any (v : Value) (xs : List Int) (lo hi : Nat) (w : World) (h : Own oI lo hi w [v] xs) (hn : xs.length ≤ 1000000000) (hl : lo ≤ w.heap.size) :
    Calls Tryz.prog 47 #[v] w fun e w' => e = .returned (.tuple #[]) ∧ Own oI lo hi w' [v] (sortL xs) ∧ Below lo w w' := by
  rcases ownI_open h with ⟨rfl, rfl⟩ | ⟨g, c, cur, rfl, hlo, hhi, hb, h1, h2, h3, h4, hr⟩
  · refine (Tryz.slices_Sort_int_none none 0 w).mono ?_
    rintro e w' ⟨rfl, rfl⟩
    exact ⟨rfl, by simpa [sortL] using h, Below.refl _ _⟩
  · refine (Tryz.slices_Sort_int g 0 c xs w (holds_of_blockI hb h4) (Array.getElem?_eq_some_iff.1 hb).1 (by omega)).mono ?_
    rintro e w' ⟨rfl, n, os, rfl⟩
    refine ⟨rfl, ownI_len (ownI_close (heap_sortedI _ hb) (by rw [sortL_len]; exact h1) h2 (by simp [putCells, h3]) (take_putCellsI cur _ (by rw [sortL_len]; omega)) (sortL_rng hr) hlo hhi) (sortL_len xs), below_row os _ hl hlo⟩

end Go.Proofs.YtpgfkjcekhifiaaGreatDoor
