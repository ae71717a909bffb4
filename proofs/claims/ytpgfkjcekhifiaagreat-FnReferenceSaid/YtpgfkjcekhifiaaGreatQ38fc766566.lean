/- Texts joined for one claim: OpenS. -/
import Derived.Test.YtpgfkjcekhifiaaGreatQ4632b3f854
import Derived.Test.YtpgfkjcekhifiaaGreatQ22cca73baf
import Derived.Deep.Strs

namespace Go.Proofs.YtpgfkjcekhifiaaGreat

open Go.ChangeShapes Go.WideShapes Go.ChangeAt Go.RowKit

set_option linter.unusedVariables false

set_option maxRecDepth 100000

set_option linter.unusedSimpArgs false

def Opens {α : Type} (T : TypeId) (r : RS α) : Prop :=
  ∀ (H : Type) (enc : TypeId × Value → H) (W : World) (fuel : Nat) (cs : List Value) (x : DataW H × List MemPlace), DataW.trod enc Tryz.prog W 0 (fun _ => true) true fuel T cs = some x → ∃ y, r.rep W cs y

theorem opens_slice {α : Type} {T E : TypeId} {r : RS α} (hT : Tryz.prog.underlying T = some (.slice E)) (hc : Tryz.prog.cellsOf E = r.size) (hpos : 0 < r.size) (hr : Opens E r) : Opens T (R.slice r) := by
  intro H enc W fuel cs x h
  rcases Go.Deep.open_slice hT h with ⟨rfl, _⟩ | ⟨a, len, cap, m, n, D, Pl, rfl, _, hl, hm, hmm, rfl, hx⟩
  · exact ⟨[], none, 0, 0, rfl, by omega, by omega, rfl, by omega, fun i x hx => by simp at hx⟩
  · simp at hmm
    subst hmm
    have hel : ∀ i, i < len → ∃ cs' y, W.cells? 0 (a.add (i * r.size)) r.size = some cs' ∧ r.rep W cs' y := fun i hi => by
      obtain ⟨cs', h1, h2⟩ := hx i (by omega)
      obtain ⟨y, hy⟩ := hr H enc W n cs' _ h2
      rw [hc] at h1
      exact ⟨cs', y, h1, hy⟩
    clear hx
    have hch : ∃ ys : List α, ys.length = len ∧ ∀ i y, ys[i]? = some y → ∃ cs', W.cells? 0 (a.add (i * r.size)) r.size = some cs' ∧ r.rep W cs' y := by
      clear hl h hm
      induction len with
      | zero => exact ⟨[], rfl, fun i y hy => by simp at hy⟩
      | succ k ih =>
        obtain ⟨ys, hys, hall⟩ := ih (fun i hi => hel i (by omega))
        obtain ⟨cs', y, h1, h2⟩ := hel k (by omega)
        refine ⟨ys ++ [y], by simp [hys], fun i z hz => ?_⟩
        by_cases hi : i < ys.length
        · rw [List.getElem?_append_left hi] at hz; exact hall i z hz
        · rw [List.getElem?_append_right (by omega)] at hz
          have : i - ys.length = 0 := by
            have := (List.getElem?_eq_some_iff.1 hz).1
            simp at this; omega
          rw [this] at hz
          simp at hz
          subst hz
          have : i = k := by omega
          subst this
          exact ⟨cs', h1, h2⟩
    obtain ⟨ys, hys, hall⟩ := hch
    refine ⟨ys, some a, len, m, rfl, hl, by unfold maxLen at hm; omega, hys, by unfold maxLen at hm; omega, fun i y hy => ?_⟩
    obtain ⟨cs', h1, h2⟩ := hall i y hy
    obtain ⟨_, hlen, hcell⟩ := World.cells?_some h1
    have ea : a = ⟨a.block, a.off, none⟩ := by
      have hl0 : 0 < ys.length := Nat.lt_of_le_of_lt (Nat.zero_le i) (List.getElem?_eq_some_iff.1 hy).1
      obtain ⟨c0, h3, _⟩ := hall 0 _ (List.getElem?_eq_getElem hl0)
      obtain ⟨_, hlen0, hcell0⟩ := World.cells?_some h3
      have h0 := hcell0 0 hpos
      rw [List.getElem?_eq_getElem (by omega)] at h0
      exact addr_none (by simpa [Addr.add] using h0)
    refine ⟨a.block, a.off, cs', congrArg some ea, h2, fun j u hu => ?_⟩
    have hj : j < r.size := by rw [← hlen]; exact (List.getElem?_eq_some_iff.1 hu).1
    have h4 := hcell j hj
    rw [hu, Go.Deep.add_add, ea] at h4
    rw [← h4]
    congr 1
    unfold Addr.add
    split
    · rename_i h; rw [h]; rfl
    · rfl

end Go.Proofs.YtpgfkjcekhifiaaGreat
