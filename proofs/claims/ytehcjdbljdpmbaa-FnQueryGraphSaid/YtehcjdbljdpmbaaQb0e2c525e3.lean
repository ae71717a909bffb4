/- Texts joined for one claim: GrpW. -/
import Derived.Test.YtehcjdbljdpmbaaQ593442f878
import Derived.Test.YtehcjdbljdpmbaaQ0f3a443e86
import Derived.Test.YtehcjdbljdpmbaaQ333daf5705

/- Contracts of GroupCounts, as the law's walk takes them. -/
namespace Go.Proofs.Ytehcjdbljdpmbaa
open Go.RowKit
set_option linter.unusedVariables false

theorem groups_spec' (v : Value) (cs : List Value) (t : DT) (cols : List Int) (w : World) (ht : rT.rep w cs t) (h' : rI.rep w [v] cols) :
    Calls Try.prog 62 #[.agg cs.toArray, v] w fun e w' => ∃ u1 u2, e = .returned (.tuple #[u1, u2]) ∧ Own oII w.heap.size w'.heap.size w' [u1] (grpV t cols) ∧ Own oI w.heap.size w'.heap.size w' [u2] (grpN t cols) ∧ Below w.heap.size w w' :=
  (groups_spec v cs t cols w ht h').mono fun e w' ⟨_, _, _, _, _, _, he, h1, h2, h3⟩ => ⟨_, _, he, h1, h2, h3⟩
theorem groups_impl' (v : Value) (cs : List Value) (t : DT) (cols : List Int) (w : World) (ht : rT.rep w cs t) (h' : rI.rep w [v] cols) :
    Calls Try.prog 42 #[.agg cs.toArray, v] w fun e w' => ∃ u1 u2, ∃ wm : World, e = .returned (.tuple #[u1, u2]) ∧ Own oII w.heap.size wm.heap.size w' [u1] (grpV t cols) ∧ Own oI wm.heap.size w'.heap.size w' [u2] (grpN t cols) ∧ (w.heap.size ≤ wm.heap.size ∧ wm.heap.size ≤ w'.heap.size) ∧ Below w.heap.size w w' :=
  (groups_impl v cs t cols w ht h').mono fun e w' ⟨_, _, _, _, _, _, wm, he, h1, h2, h3, h4, h5⟩ => ⟨_, _, wm, he, h1, h2, ⟨h3, h4⟩, h5⟩

end Go.Proofs.Ytehcjdbljdpmbaa
