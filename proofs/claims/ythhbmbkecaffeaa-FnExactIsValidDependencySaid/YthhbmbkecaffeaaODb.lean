/- Arguments of kind Db opened. Written by a program. -/
import Derived.Test.YthhbmbkecaffeaaKDb
import Derived.Test.YthhbmbkecaffeaaOTl
namespace Go.Proofs.Ythhbmbkecaffeaa
open Go.ChangeShapes Go.WideShapes Go.ChangeAt Go.RowKit
set_option linter.unusedVariables false
set_option maxRecDepth 100000

theorem opens_Db : Opens 41 rDb := opens_struct1 Try.underlying41 (by kernel_rfl) rfl (by kernel_rfl) opens_Tl
abbrev kDb_in := agg_in rDb
theorem open_kDb_in {H : Type} {enc : TypeId × Value → H} {W : World} {d : DataW H} {ps : List MemPlace} {v : Value} (hv : Value.okWide Try.prog W .any 0 41 v) (h : DataW.Trod enc Try.prog W 0 (fun _ => true) true 41 v d ps) : kDb_in W v :=
  open_agg_in Try.underlying41 opens_Db hv h

end Go.Proofs.Ythhbmbkecaffeaa
