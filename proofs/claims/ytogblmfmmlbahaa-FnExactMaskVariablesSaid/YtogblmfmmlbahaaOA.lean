/- Arguments of kind A opened. Written by a program. -/
import Derived.Test.YtogblmfmmlbahaaKA
import Derived.Test.YtogblmfmmlbahaaOI
namespace Go.Proofs.Ytogblmfmmlbahaa
open Go.ChangeShapes Go.WideShapes Go.ChangeAt Go.RowKit
set_option linter.unusedVariables false
set_option maxRecDepth 100000

theorem opens_A : Opens 97 rA := opens_struct2 Try.underlying97 (by kernel_rfl) rfl rfl (by kernel_rfl) (by kernel_rfl) opens_str' opens_I
abbrev kA_in := agg_in rA
theorem open_kA_in {H : Type} {enc : TypeId × Value → H} {W : World} {d : DataW H} {ps : List MemPlace} {v : Value} (hv : Value.okWide Try.prog W .any 0 97 v) (h : DataW.Trod enc Try.prog W 0 (fun _ => true) true 97 v d ps) : kA_in W v :=
  open_agg_in Try.underlying97 opens_A hv h

end Go.Proofs.Ytogblmfmmlbahaa
