/- Slices of ints and strings opened. -/
import Derived.Test.YtigcagplbihenaaDoorOpenS
import Derived.Test.YtigcagplbihenaaDoorUniI
namespace Go.Proofs.YtigcagplbihenaaDoor
open Go.ChangeShapes Go.WideShapes Go.ChangeAt Go.RowKit
set_option linter.unusedVariables false
set_option maxRecDepth 100000

def kI_in (w : World) (v : Value) : Prop := ∃ a n cap xs, v = .slice a n cap ∧ (xs.length = n ∧ n ≤ 9223372036854775807) ∧ rI.rep w [.slice a n cap] xs
theorem opens_I : Opens 33 rI := opens_slice Tryd.underlying33 (by kernel_rfl) (by decide) opens_int
theorem open_kI_in {H : Type} {enc : TypeId × Value → H} {W : World} {d : DataW H} {ps : List MemPlace} {v : Value} (hv : Value.okWide Tryd.prog W .any 0 33 v) (h : DataW.Trod enc Tryd.prog W 0 (fun _ => true) true 33 v d ps) : kI_in W v := by
  obtain ⟨a, l, c, rfl⟩ := okWide_slice Tryd.underlying33 hv
  obtain ⟨fuel, hf⟩ := h
  obtain ⟨xs, hx⟩ := opens_I H enc W fuel _ _ hf
  have hx' : rI.rep W [.slice a l c] xs := by simpa [Value.cells] using hx
  obtain ⟨a', cap, hv2, _, _, hi⟩ := rI_open hx'
  simp at hv2
  obtain ⟨rfl, rfl, rfl⟩ := hv2
  exact ⟨_, _, _, xs, rfl, ⟨rfl, hi.small⟩, hx'⟩

theorem opens_str' : Opens 9 R.str := opens_str Tryd.underlying9

def str_in (_w : World) (v : Value) : Prop := ∃ s, v = .string s ∧ s.size ≤ 9223372036854775807
theorem open_str_in {H : Type} {enc : TypeId × Value → H} {W : World} {d : DataW H} {ps : List MemPlace} {v : Value} (hv : Value.okWide Tryd.prog W .any 0 9 v) (h : DataW.Trod enc Tryd.prog W 0 (fun _ => true) true 9 v d ps) : str_in W v := by
  obtain ⟨s, rfl⟩ := okWide_string Tryd.underlying9 hv
  obtain ⟨fuel, hf⟩ := h
  obtain ⟨s', h1, h2⟩ := opens_str' H enc W fuel _ _ hf
  simp [Value.cells] at h1
  subst h1
  exact ⟨_, rfl, h2⟩

end Go.Proofs.YtigcagplbihenaaDoor
