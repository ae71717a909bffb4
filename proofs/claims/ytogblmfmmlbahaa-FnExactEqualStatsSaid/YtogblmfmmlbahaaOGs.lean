/- Arguments of kind Gs opened. Written by a program. -/
import Derived.Test.YtogblmfmmlbahaaKGs
import Derived.Test.YtogblmfmmlbahaaOI
import Derived.Test.YtogblmfmmlbahaaOII
namespace Go.Proofs.Ytogblmfmmlbahaa
open Go.ChangeShapes Go.WideShapes Go.ChangeAt Go.RowKit
set_option linter.unusedVariables false
set_option maxRecDepth 100000

theorem opens_Gs : Opens 101 rGs := opens_struct3 Try.underlying101 (by kernel_rfl) rfl rfl rfl (by kernel_rfl) (by kernel_rfl) (by kernel_rfl) opens_I opens_II opens_I
abbrev kGs_in := agg_in rGs
theorem open_kGs_in {H : Type} {enc : TypeId × Value → H} {W : World} {d : DataW H} {ps : List MemPlace} {v : Value} (hv : Value.okWide Try.prog W .any 0 101 v) (h : DataW.Trod enc Try.prog W 0 (fun _ => true) true 101 v d ps) : kGs_in W v :=
  open_agg_in Try.underlying101 opens_Gs hv h

end Go.Proofs.Ytogblmfmmlbahaa
