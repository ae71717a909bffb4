/- Arguments of kind Q opened. Written by a program. -/
import Derived.Test.YtogblmfmmlbahaaKQ
import Derived.Test.YtogblmfmmlbahaaOAs
import Derived.Test.YtogblmfmmlbahaaOI
namespace Go.Proofs.Ytogblmfmmlbahaa
open Go.ChangeShapes Go.WideShapes Go.ChangeAt Go.RowKit
set_option linter.unusedVariables false
set_option maxRecDepth 100000

theorem opens_Q : Opens 36 rQ := opens_struct2 Try.underlying36 (by kernel_rfl) rfl rfl (by kernel_rfl) (by kernel_rfl) opens_int opens_As
abbrev kQ_in := agg_in rQ
theorem open_kQ_in {H : Type} {enc : TypeId × Value → H} {W : World} {d : DataW H} {ps : List MemPlace} {v : Value} (hv : Value.okWide Try.prog W .any 0 36 v) (h : DataW.Trod enc Try.prog W 0 (fun _ => true) true 36 v d ps) : kQ_in W v :=
  open_agg_in Try.underlying36 opens_Q hv h

end Go.Proofs.Ytogblmfmmlbahaa
