/- Arguments of kind II opened. Written by a program. -/
import Derived.Test.YthhbmbkecaffeaaKII
import Derived.Test.YthhbmbkecaffeaaOI
namespace Go.Proofs.Ythhbmbkecaffeaa
open Go.ChangeShapes Go.WideShapes Go.ChangeAt Go.RowKit
set_option linter.unusedVariables false
set_option maxRecDepth 100000

theorem opens_II : Opens 55 rII := opens_slice Try.underlying55 (by kernel_rfl) (by decide) opens_I
def kII_in (w : World) (v : Value) : Prop := ∃ u xs, v = u ∧ rII.rep w [u] xs
theorem open_kII_in {H : Type} {enc : TypeId × Value → H} {W : World} {d : DataW H} {ps : List MemPlace} {v : Value} (hv : Value.okWide Try.prog W .any 0 55 v) (h : DataW.Trod enc Try.prog W 0 (fun _ => true) true 55 v d ps) : kII_in W v := by
  obtain ⟨a, l, c, rfl⟩ := okWide_slice Try.underlying55 hv
  obtain ⟨fuel, hf⟩ := h
  obtain ⟨xs, hx⟩ := opens_II H enc W fuel _ _ hf
  exact ⟨_, xs, rfl, by simpa [Value.cells] using hx⟩

end Go.Proofs.Ythhbmbkecaffeaa
