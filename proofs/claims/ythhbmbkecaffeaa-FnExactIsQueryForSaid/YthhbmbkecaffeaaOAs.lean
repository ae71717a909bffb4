/- Arguments of kind As opened. Written by a program. -/
import Derived.Test.YthhbmbkecaffeaaKAs
import Derived.Test.YthhbmbkecaffeaaOA
namespace Go.Proofs.Ythhbmbkecaffeaa
open Go.ChangeShapes Go.WideShapes Go.ChangeAt Go.RowKit
set_option linter.unusedVariables false
set_option maxRecDepth 100000

theorem opens_As : Opens 22 rAs := opens_slice Try.underlying22 (by kernel_rfl) (by decide) opens_A
def kAs_in (w : World) (v : Value) : Prop := ∃ u xs, v = u ∧ rAs.rep w [u] xs
theorem open_kAs_in {H : Type} {enc : TypeId × Value → H} {W : World} {d : DataW H} {ps : List MemPlace} {v : Value} (hv : Value.okWide Try.prog W .any 0 22 v) (h : DataW.Trod enc Try.prog W 0 (fun _ => true) true 22 v d ps) : kAs_in W v := by
  obtain ⟨a, l, c, rfl⟩ := okWide_slice Try.underlying22 hv
  obtain ⟨fuel, hf⟩ := h
  obtain ⟨xs, hx⟩ := opens_As H enc W fuel _ _ hf
  exact ⟨_, xs, rfl, by simpa [Value.cells] using hx⟩

end Go.Proofs.Ythhbmbkecaffeaa
