/- The walks of the laws on degree sequences: each callee by its contract. -/
import Derived.Test.YtnemkajkidgfjaaDeg
import Derived.Test.YtnemkajkidgfjaaHelp
import Derived.Test.YtnemkajkidgfjaaOpen
namespace Go.Proofs.Ytnemkajkidgfjaa
open Go.RowKit
set_option linter.unusedVariables false
set_option linter.unusedSimpArgs false

set_option maxHeartbeats 400000 in
theorem walk_FnExactIsDegreeSequence (v0 : Value) (w : World) (h0 : ints_in w v0) :
    Calls Try.prog 4 #[v0] w fun e w' => e = .returned (.bool true) ∧ Below w.heap.size w w' := by
  obtain ⟨a, n, cap, xs, rfl, h⟩ := h0
  have hsm := h.small
  by_cases hn : n ≤ 1048576
  · go_enter Try.func4, Try.ntmps4
    go_wp2_with fail
    refine (toIntS_any _ _ _ _ _ h (by omega)).mono ?_
    rintro e w1 ⟨a1, c1, rfl, o1, b1⟩
    go_wp2_with fail
    refine (isDeg_spec _ _ _ _ _ o1.ints).mono ?_
    rintro e w2 ⟨rfl, d2⟩
    go_wp2_with fail
    have hb2 : Below w.heap.size w w2 := onD b1 d2
    refine (toIntS_any _ _ _ _ _ (h.below hb2) (by omega)).mono ?_
    rintro e w3 ⟨a3, c3, rfl, o3, b3⟩
    go_wp2_with fail
    refine (isDeg_impl _ _ _ _ _ o3.ints).mono ?_
    rintro e w3 ⟨rfl, rfl⟩
    go_wp2_with fail
    have hb3 : Below w.heap.size w w3 := on hb2 b3
    refine (toIntS_any _ _ _ _ _ (h.below hb3) (by omega)).mono ?_
    rintro e w4 ⟨a4, c4, rfl, o4, b4⟩
    have hb4 : Below w.heap.size w w4 := on hb3 b4
    go_wp2_with fail
    refine (eqIntS_any _ _ _ _ _ _ _ _ _ (o3.below b4).ints o4.ints).mono ?_
    rintro e w5 ⟨rfl, d5⟩
    have hb5 : Below w.heap.size w w5 := onD hb4 d5
    go_wp2_with fail
    go_ret
    exact ⟨rfl, hb5⟩
  · go_enter Try.func4, Try.ntmps4
    go_wp2
    go_ret
    exact ⟨rfl, Below.refl _ _⟩

end Go.Proofs.Ytnemkajkidgfjaa
