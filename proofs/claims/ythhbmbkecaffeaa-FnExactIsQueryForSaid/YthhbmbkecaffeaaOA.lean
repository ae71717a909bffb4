/- Arguments of kind A opened. Written by a program. -/
import Derived.Test.YthhbmbkecaffeaaKA
import Derived.Test.YthhbmbkecaffeaaOI
namespace Go.Proofs.Ythhbmbkecaffeaa
open Go.ChangeShapes Go.WideShapes Go.ChangeAt Go.RowKit
set_option linter.unusedVariables false
set_option maxRecDepth 100000

theorem opens_A : Opens 110 rA := opens_struct2 Try.underlying110 (by kernel_rfl) rfl rfl (by kernel_rfl) (by kernel_rfl) opens_str' opens_I
abbrev kA_in := agg_in rA
theorem open_kA_in {H : Type} {enc : TypeId × Value → H} {W : World} {d : DataW H} {ps : List MemPlace} {v : Value} (hv : Value.okWide Try.prog W .any 0 110 v) (h : DataW.Trod enc Try.prog W 0 (fun _ => true) true 110 v d ps) : kA_in W v :=
  open_agg_in Try.underlying110 opens_A hv h

end Go.Proofs.Ythhbmbkecaffeaa
