/- Arguments of kind Dp opened. Written by a program. -/
import Derived.Test.YthhbmbkecaffeaaKDp
import Derived.Test.YthhbmbkecaffeaaOI
namespace Go.Proofs.Ythhbmbkecaffeaa
open Go.ChangeShapes Go.WideShapes Go.ChangeAt Go.RowKit
set_option linter.unusedVariables false
set_option maxRecDepth 100000

theorem opens_Dp : Opens 65 rDp := opens_struct3 Try.underlying65 (by kernel_rfl) rfl rfl rfl (by kernel_rfl) (by kernel_rfl) (by kernel_rfl) opens_str' opens_I opens_int
abbrev kDp_in := agg_in rDp
theorem open_kDp_in {H : Type} {enc : TypeId × Value → H} {W : World} {d : DataW H} {ps : List MemPlace} {v : Value} (hv : Value.okWide Try.prog W .any 0 65 v) (h : DataW.Trod enc Try.prog W 0 (fun _ => true) true 65 v d ps) : kDp_in W v :=
  open_agg_in Try.underlying65 opens_Dp hv h

end Go.Proofs.Ythhbmbkecaffeaa
