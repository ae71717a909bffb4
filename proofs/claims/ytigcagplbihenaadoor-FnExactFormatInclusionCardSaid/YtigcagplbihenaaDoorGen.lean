/- Slices of any element: opened, one element at a time; sums over them. -/
import Derived.Test.YtigcagplbihenaaDoorPart
namespace Go.Proofs.YtigcagplbihenaaDoor
open Go.RowKit
set_option linter.unusedVariables false
set_option linter.unusedSimpArgs false

theorem rS_open {α : Type} {r : RS α} {w : World} {v : Value} {xs : List α} (h : (R.slice r).rep w [v] xs) : ∃ a cap, v = .slice a xs.length cap ∧ xs.length ≤ cap ∧ cap ≤ 9223372036854775807 ∧ Sl r w a xs.length xs := by
  obtain ⟨a, n, cap, hv, h1, h2, hs⟩ := h
  simp at hv
  have := hs.len
  subst this
  exact ⟨a, cap, hv, h1, h2, hs⟩
theorem rS_mk {α : Type} {r : RS α} {w : World} {a : Option Addr} {n cap : Nat} {xs : List α} (h : Sl r w a n xs) (h1 : n ≤ cap) (h2 : cap ≤ 9223372036854775807) : (R.slice r).rep w [.slice a n cap] xs := ⟨a, n, cap, rfl, h1, h2, h⟩
theorem rS_form {α : Type} {r : RS α} {w : World} {cs : List Value} {xs : List α} (h : (R.slice r).rep w cs xs) : ∃ b n c, cs = [.slice b n c] := by
  obtain ⟨a, n, cap, hv, _⟩ := h
  exact ⟨_, _, _, hv⟩
theorem oS_form1 {α : Type} {t : TypeId} {o : OS α} {r : RS α} (hr : Reads o r) {lo hi : Nat} {w : World} {v : Value} {xs : List α} (h : Own (O.slice t o) lo hi w [v] xs) : ∃ b n c, v = .slice b n c := by
  obtain ⟨b, n, c, hv⟩ := rS_form (h.rd (Reads.slice t hr))
  simp at hv
  exact ⟨_, _, _, hv⟩
theorem rS_sl {α : Type} {r : RS α} {w : World} {a : Option Addr} {n c : Nat} {xs : List α} (h : (R.slice r).rep w [.slice a n c] xs) : Sl r w a n xs := by
  obtain ⟨a', n', c', hv, h1, h2, hs⟩ := h
  simp at hv
  obtain ⟨rfl, rfl, rfl⟩ := hv
  exact hs
theorem rS_cap {α : Type} {r : RS α} {w : World} {a : Option Addr} {n c : Nat} {xs : List α} (h : (R.slice r).rep w [.slice a n c] xs) : n ≤ c ∧ c ≤ 9223372036854775807 := by
  obtain ⟨a', n', c', hv, h1, h2, hs⟩ := h
  simp at hv
  obtain ⟨rfl, rfl, rfl⟩ := hv
  exact ⟨h1, h2⟩
theorem rI_ints {w : World} {a : Option Addr} {n c : Nat} {xs : List Int} (h : rI.rep w [.slice a n c] xs) : Ints w a n xs := (rS_sl h).ints
theorem Sl.at {α : Type} {r : RS α} {w : World} {a : Option Addr} {n : Nat} {xs : List α} (h : Sl r w a n xs) {k : Nat} (hk : k < n) :
    ∃ b off cs x, a = some ⟨b, off, none⟩ ∧ Hid (xs[k]? = some x) ∧ r.rep w cs x ∧ ∀ j u, cs[j]? = some u → w.cell? ⟨b, off + (k * r.size + j), none⟩ = some u := by
  have hk' : k < xs.length := by rw [h.len]; exact hk
  obtain ⟨b, off, cs, ha, hrep, hc⟩ := h.elem k _ (List.getElem?_eq_getElem hk')
  exact ⟨b, off, cs, _, ha, List.getElem?_eq_getElem hk', hrep, hc⟩

def sumBy {α : Type} (f : α → Nat) (xs : List α) : Nat := (xs.map f).sum
theorem sumBy_drop {α : Type} (f : α → Nat) {xs : List α} {j : Nat} {x : α} (h : xs[j]? = some x) : sumBy f (xs.drop j) = f x + sumBy f (xs.drop (j + 1)) := by
  obtain ⟨h1, rfl⟩ := List.getElem?_eq_some_iff.1 h
  rw [List.drop_eq_getElem_cons h1]; simp only [sumBy, List.map_cons, List.sum_cons]
theorem sumBy_take {α : Type} (f : α → Nat) {xs : List α} {j : Nat} {x : α} (h : xs[j]? = some x) : sumBy f (xs.take (j + 1)) = sumBy f (xs.take j) + f x := by
  rw [take_snoc' xs j x h]; simp [sumBy]
theorem sumBy_mem {α : Type} (f : α → Nat) {xs : List α} {j : Nat} {x : α} (h : xs[j]? = some x) : f x ≤ sumBy f xs := by
  have h1 := sumBy_drop f h
  have h2 : sumBy f xs = sumBy f (xs.take j) + sumBy f (xs.drop j) := by
    conv => lhs; rw [← List.take_append_drop j xs]
    simp only [sumBy, List.map_append, List.sum_append]
  omega
theorem sumBy_end {α : Type} (f : α → Nat) {xs : List α} {j : Nat} (h : xs.length ≤ j) : sumBy f (xs.drop j) = 0 := by
  rw [List.drop_eq_nil_of_le h]; rfl
theorem sumBy_all {α : Type} (f : α → Nat) {xs : List α} {j : Nat} (h : xs.length ≤ j) : sumBy f (xs.take j) = sumBy f xs := by
  rw [List.take_of_length_le h]

end Go.Proofs.YtigcagplbihenaaDoor
