/- Arguments of kind Ts opened. Written by a program. -/
import Derived.Test.YtogblmfmmlbahaaKTs
import Derived.Test.YtogblmfmmlbahaaOGl
import Derived.Test.YtogblmfmmlbahaaOI
namespace Go.Proofs.Ytogblmfmmlbahaa
open Go.ChangeShapes Go.WideShapes Go.ChangeAt Go.RowKit
set_option linter.unusedVariables false
set_option maxRecDepth 100000

theorem opens_Ts : Opens 51 rTs := opens_struct4 Try.underlying51 (by kernel_rfl) rfl rfl rfl rfl (by kernel_rfl) (by kernel_rfl) (by kernel_rfl) (by kernel_rfl) opens_str' opens_int opens_int opens_Gl
abbrev kTs_in := agg_in rTs
theorem open_kTs_in {H : Type} {enc : TypeId × Value → H} {W : World} {d : DataW H} {ps : List MemPlace} {v : Value} (hv : Value.okWide Try.prog W .any 0 51 v) (h : DataW.Trod enc Try.prog W 0 (fun _ => true) true 51 v d ps) : kTs_in W v :=
  open_agg_in Try.underlying51 opens_Ts hv h

end Go.Proofs.Ytogblmfmmlbahaa
