/- What the arguments of the laws read as, kind by kind. -/
import Derived.Test.YtnemkajkidgfjaaOpenS
import Derived.Test.YtnemkajkidgfjaaKAtom
namespace Go.Proofs.Ytnemkajkidgfjaa
open Go.ChangeShapes Go.WideShapes Go.ChangeAt Go.RowKit
set_option linter.unusedVariables false

def kI_in (w : World) (v : Value) : Prop := ∃ a n cap xs, v = .slice a n cap ∧ (xs.length = n ∧ n ≤ 9223372036854775807) ∧ rI.rep w [.slice a n cap] xs
theorem opens_I : Opens 24 rI := opens_slice Try.underlying24 (by kernel_rfl) (by decide) opens_int
theorem open_kI_in {H : Type} {enc : TypeId × Value → H} {W : World} {d : DataW H} {ps : List MemPlace} {v : Value} (hv : Value.okWide Try.prog W .any 0 24 v) (h : DataW.Trod enc Try.prog W 0 (fun _ => true) true 24 v d ps) : kI_in W v := by
  obtain ⟨a, l, c, rfl⟩ := okWide_slice Try.underlying24 hv
  obtain ⟨fuel, hf⟩ := h
  obtain ⟨xs, hx⟩ := opens_I H enc W fuel _ _ hf
  have hx' : rI.rep W [.slice a l c] xs := by simpa [Value.cells] using hx
  obtain ⟨a', cap, hv2, _, _, hi⟩ := rI_open hx'
  simp at hv2
  obtain ⟨rfl, rfl, rfl⟩ := hv2
  exact ⟨_, _, _, xs, rfl, ⟨rfl, hi.small⟩, hx'⟩

theorem opens_str' : Opens 9 R.str := opens_str Try.underlying9
theorem opens_A : Opens 40 rA := opens_struct2 Try.underlying40 (by kernel_rfl) rfl rfl (by kernel_rfl) (by kernel_rfl) opens_str' opens_I
abbrev kA_in := agg_in rA
theorem open_kA_in {H : Type} {enc : TypeId × Value → H} {W : World} {d : DataW H} {ps : List MemPlace} {v : Value} (hv : Value.okWide Try.prog W .any 0 40 v) (h : DataW.Trod enc Try.prog W 0 (fun _ => true) true 40 v d ps) : kA_in W v :=
  open_agg_in Try.underlying40 opens_A hv h

end Go.Proofs.Ytnemkajkidgfjaa
