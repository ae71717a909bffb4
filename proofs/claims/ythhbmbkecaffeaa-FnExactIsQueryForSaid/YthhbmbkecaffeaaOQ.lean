/- Arguments of kind Q opened. Written by a program. -/
import Derived.Test.YthhbmbkecaffeaaKQ
import Derived.Test.YthhbmbkecaffeaaOAs
import Derived.Test.YthhbmbkecaffeaaOI
namespace Go.Proofs.Ythhbmbkecaffeaa
open Go.ChangeShapes Go.WideShapes Go.ChangeAt Go.RowKit
set_option linter.unusedVariables false
set_option maxRecDepth 100000

theorem opens_Q : Opens 24 rQ := opens_struct2 Try.underlying24 (by kernel_rfl) rfl rfl (by kernel_rfl) (by kernel_rfl) opens_int opens_As
abbrev kQ_in := agg_in rQ
theorem open_kQ_in {H : Type} {enc : TypeId × Value → H} {W : World} {d : DataW H} {ps : List MemPlace} {v : Value} (hv : Value.okWide Try.prog W .any 0 24 v) (h : DataW.Trod enc Try.prog W 0 (fun _ => true) true 24 v d ps) : kQ_in W v :=
  open_agg_in Try.underlying24 opens_Q hv h

end Go.Proofs.Ythhbmbkecaffeaa
