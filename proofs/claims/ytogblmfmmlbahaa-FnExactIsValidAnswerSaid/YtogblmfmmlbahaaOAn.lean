/- Arguments of kind An opened. Written by a program. -/
import Derived.Test.YtogblmfmmlbahaaKAn
import Derived.Test.YtogblmfmmlbahaaOI
import Derived.Test.YtogblmfmmlbahaaOII
namespace Go.Proofs.Ytogblmfmmlbahaa
open Go.ChangeShapes Go.WideShapes Go.ChangeAt Go.RowKit
set_option linter.unusedVariables false
set_option maxRecDepth 100000

theorem opens_An : Opens 28 rAn := opens_struct2 Try.underlying28 (by kernel_rfl) rfl rfl (by kernel_rfl) (by kernel_rfl) opens_I opens_II
abbrev kAn_in := agg_in rAn
theorem open_kAn_in {H : Type} {enc : TypeId × Value → H} {W : World} {d : DataW H} {ps : List MemPlace} {v : Value} (hv : Value.okWide Try.prog W .any 0 28 v) (h : DataW.Trod enc Try.prog W 0 (fun _ => true) true 28 v d ps) : kAn_in W v :=
  open_agg_in Try.underlying28 opens_An hv h

end Go.Proofs.Ytogblmfmmlbahaa
