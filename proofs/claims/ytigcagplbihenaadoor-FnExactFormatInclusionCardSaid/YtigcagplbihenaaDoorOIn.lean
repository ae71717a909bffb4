/- Arguments of kind In opened. Written by a program. -/
import Derived.Test.YtigcagplbihenaaDoorKIn
import Derived.Test.YtigcagplbihenaaDoorOI
namespace Go.Proofs.YtigcagplbihenaaDoor
open Go.ChangeShapes Go.WideShapes Go.ChangeAt Go.RowKit
set_option linter.unusedVariables false
set_option maxRecDepth 100000

theorem opens_In : Opens 23 rIn := opens_struct4 Tryd.underlying23 (by kernel_rfl) rfl rfl rfl rfl (by kernel_rfl) (by kernel_rfl) (by kernel_rfl) (by kernel_rfl) opens_str' opens_int opens_str' opens_int
abbrev kIn_in := agg_in rIn
theorem open_kIn_in {H : Type} {enc : TypeId × Value → H} {W : World} {d : DataW H} {ps : List MemPlace} {v : Value} (hv : Value.okWide Tryd.prog W .any 0 23 v) (h : DataW.Trod enc Tryd.prog W 0 (fun _ => true) true 23 v d ps) : kIn_in W v :=
  open_agg_in Tryd.underlying23 opens_In hv h

end Go.Proofs.YtigcagplbihenaaDoor
