/- Arguments of kind T opened. Written by a program. -/
import Derived.Test.YthhbmbkecaffeaaKT
import Derived.Test.YthhbmbkecaffeaaOI
import Derived.Test.YthhbmbkecaffeaaOII
namespace Go.Proofs.Ythhbmbkecaffeaa
open Go.ChangeShapes Go.WideShapes Go.ChangeAt Go.RowKit
set_option linter.unusedVariables false
set_option maxRecDepth 100000

theorem opens_T : Opens 128 rT := opens_struct3 Try.underlying128 (by kernel_rfl) rfl rfl rfl (by kernel_rfl) (by kernel_rfl) (by kernel_rfl) opens_str' opens_int opens_II
abbrev kT_in := agg_in rT
theorem open_kT_in {H : Type} {enc : TypeId × Value → H} {W : World} {d : DataW H} {ps : List MemPlace} {v : Value} (hv : Value.okWide Try.prog W .any 0 128 v) (h : DataW.Trod enc Try.prog W 0 (fun _ => true) true 128 v d ps) : kT_in W v :=
  open_agg_in Try.underlying128 opens_T hv h

end Go.Proofs.Ythhbmbkecaffeaa
