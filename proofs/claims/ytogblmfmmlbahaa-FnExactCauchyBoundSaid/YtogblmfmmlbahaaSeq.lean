/- Contracts: totals, top degrees and bounds of degree sequences; the plain law of each. -/
import Derived.Test.YtogblmfmmlbahaaDeg
namespace Go.Proofs.Ytogblmfmmlbahaa
open Go.RowKit
set_option linter.unusedVariables false
set_option linter.unusedSimpArgs false

/-- Every prefix adds up to at most 8, and to no less than nought. -/
def Small (xs : List Int) : Prop := ∀ j, 0 ≤ (xs.take j).sum ∧ (xs.take j).sum ≤ 8

theorem degFrom_facts : ∀ (xs : List Int) (left prev : Int), 0 ≤ left → degFrom left prev xs = true → (∀ j, 0 ≤ (xs.take j).sum ∧ (xs.take j).sum ≤ left) ∧ (xs.length : Int) ≤ left ∧ ∀ x ∈ xs, 1 ≤ x ∧ x ≤ left := by
  intro xs
  induction xs with
  | nil => intro left prev h _; simp; omega
  | cons d t ih =>
    intro left prev h hd
    simp only [degFrom, Bool.and_eq_true, betw, decide_eq_true_eq] at hd
    obtain ⟨⟨⟨h1, h2⟩, _⟩, h4⟩ := hd
    obtain ⟨i1, i2, i3⟩ := ih (left - d) d (by omega) h4
    refine ⟨fun j => ?_, by simp; omega, ?_⟩
    · cases j with
      | zero => simp; omega
      | succ j => have := i1 j; simp; omega
    · intro x hx
      rcases List.mem_cons.1 hx with rfl | hx
      · exact ⟨h1, h2⟩
      · have := i3 x hx; omega
theorem isDeg_small {xs : List Int} (h : isDeg xs = true) : Small xs := (degFrom_facts xs 8 8 (by omega) h).1
theorem isDeg_len {xs : List Int} (h : isDeg xs = true) : xs.length ≤ 8 := by have := (degFrom_facts xs 8 8 (by omega) h).2.1; omega
theorem isDeg_mem {xs : List Int} (h : isDeg xs = true) : ∀ x ∈ xs, 1 ≤ x ∧ x ≤ 8 := (degFrom_facts xs 8 8 (by omega) h).2.2
theorem Small.take {xs : List Int} (h : Small xs) (k : Nat) : Small (xs.take k) := by
  intro j; rw [List.take_take]; exact h _
theorem getD_mem {xs : List Int} {k : Nat} (h : k < xs.length) : xs.getD k 0 ∈ xs := by
  rw [List.getD_eq_getElem?_getD, List.getElem?_eq_getElem h]; exact List.getElem_mem h
theorem sum_snoc (xs : List Int) (k : Nat) (x : Int) (h : k < xs.length) (hx : xs.getD k 0 = x) : (xs.take (k + 1)).sum = (xs.take k).sum + x := by
  rw [take_snoc xs k h, hx]; simp

/-- What a degree sequence adds up to, nought if it is none. -/
def seqTotal (xs : List Int) : Int := if isDeg xs then xs.sum else 0

/-- The sum of the k greatest degrees. -/
def topDeg (xs : List Int) (k : Int) : Int := if isDeg xs then (xs.take k.toNat).sum else 0

theorem Ints.take {w : World} {a : Option Addr} {n : Nat} {xs : List Int} (h : Ints w a n xs) {k : Nat} (hk : k ≤ n) : Ints w a k (xs.take k) := by
  have hl := h.len
  refine ⟨by simp; omega, by have := h.small; omega, fun i hi => ?_, fun x hx => h.rng x (List.mem_of_mem_take hx)⟩
  obtain ⟨b, off, ha, hc⟩ := h.cell i (by omega)
  refine ⟨b, off, ha, ?_⟩
  rw [hc]
  congr 2
  simp [List.getD_eq_getElem?_getD, hi]

end Go.Proofs.Ytogblmfmmlbahaa
