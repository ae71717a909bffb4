/- Arguments of kind Tl opened. Written by a program. -/
import Derived.Test.YthhbmbkecaffeaaKTl
import Derived.Test.YthhbmbkecaffeaaOT
namespace Go.Proofs.Ythhbmbkecaffeaa
open Go.ChangeShapes Go.WideShapes Go.ChangeAt Go.RowKit
set_option linter.unusedVariables false
set_option maxRecDepth 100000

theorem opens_Tl : Opens 39 rTl := opens_slice Try.underlying39 (by kernel_rfl) (by decide) opens_T
def kTl_in (w : World) (v : Value) : Prop := ∃ u xs, v = u ∧ rTl.rep w [u] xs
theorem open_kTl_in {H : Type} {enc : TypeId × Value → H} {W : World} {d : DataW H} {ps : List MemPlace} {v : Value} (hv : Value.okWide Try.prog W .any 0 39 v) (h : DataW.Trod enc Try.prog W 0 (fun _ => true) true 39 v d ps) : kTl_in W v := by
  obtain ⟨a, l, c, rfl⟩ := okWide_slice Try.underlying39 hv
  obtain ⟨fuel, hf⟩ := h
  obtain ⟨xs, hx⟩ := opens_Tl H enc W fuel _ _ hf
  exact ⟨_, xs, rfl, by simpa [Value.cells] using hx⟩

end Go.Proofs.Ythhbmbkecaffeaa
