/- Arguments of kind Gl opened. Written by a program. -/
import Derived.Test.YtogblmfmmlbahaaKGl
import Derived.Test.YtogblmfmmlbahaaOGs
namespace Go.Proofs.Ytogblmfmmlbahaa
open Go.ChangeShapes Go.WideShapes Go.ChangeAt Go.RowKit
set_option linter.unusedVariables false
set_option maxRecDepth 100000

theorem opens_Gl : Opens 49 rGl := opens_slice Try.underlying49 (by kernel_rfl) (by decide) opens_Gs
def kGl_in (w : World) (v : Value) : Prop := ∃ u xs, v = u ∧ rGl.rep w [u] xs
theorem open_kGl_in {H : Type} {enc : TypeId × Value → H} {W : World} {d : DataW H} {ps : List MemPlace} {v : Value} (hv : Value.okWide Try.prog W .any 0 49 v) (h : DataW.Trod enc Try.prog W 0 (fun _ => true) true 49 v d ps) : kGl_in W v := by
  obtain ⟨a, l, c, rfl⟩ := okWide_slice Try.underlying49 hv
  obtain ⟨fuel, hf⟩ := h
  obtain ⟨xs, hx⟩ := opens_Gl H enc W fuel _ _ hf
  exact ⟨_, xs, rfl, by simpa [Value.cells] using hx⟩

end Go.Proofs.Ytogblmfmmlbahaa
