/- The walk of CauchyBound's law. Written by a program. -/
import Derived.Test.YtogblmfmmlbahaaCauchy
import Derived.Test.YtogblmfmmlbahaaHelp
import Derived.Test.YtogblmfmmlbahaaOpen
namespace Go.Proofs.Ytogblmfmmlbahaa
open Go.RowKit
set_option linter.unusedVariables false
set_option linter.unusedSimpArgs false

set_option maxHeartbeats 800000 in
theorem walk_FnExactCauchyBound (v0 : Value) (v1 : Value) (w : World) (h0 : ints_in w v0) (h1 : ints_in w v1) :
    Calls Try.prog 3 #[v0, v1] w fun e w' => e = .returned (.bool true) ∧ Below w.heap.size w w' := by
  obtain ⟨a0, n0, cap0, xs0, rfl, h0⟩ := h0
  have s0 := h0.small
  obtain ⟨a1, n1, cap1, xs1, rfl, h1⟩ := h1
  have s1 := h1.small
  by_cases g0 : n0 ≤ 1048576
  · skip
    by_cases g1 : n1 ≤ 1048576
    · skip
      go_enter Try.func3, Try.ntmps3
      have hb0 : Below w.heap.size w w := Below.refl _ _
      go_wp2_with fail
      refine (toIntS_any _ _ _ _ _ (h0.below hb0) (by omega)).mono ?_
      rintro e w1 ⟨b1, c1, rfl, o1, z1⟩
      have hb1 := on hb0 z1
      go_wp2_with fail
      refine (toIntS_any _ _ _ _ _ (h1.below hb1) (by omega)).mono ?_
      rintro e w2 ⟨b2, c2, rfl, o2, z2⟩
      have hb2 := on hb1 z2
      replace o1 := o1.below z2
      go_wp2_with fail
      refine (cauchy_spec _ _ _ _ _ _ _ _ _ o1.ints o2.ints).mono ?_
      rintro e w3 ⟨rfl, d3⟩
      have hb3 := onD hb2 d3
      go_wp2_with fail
      refine (toIntS_any _ _ _ _ _ (h0.below hb3) (by omega)).mono ?_
      rintro e w4 ⟨b4, c4, rfl, o4, z4⟩
      have hb4 := on hb3 z4
      go_wp2_with fail
      refine (toIntS_any _ _ _ _ _ (h1.below hb4) (by omega)).mono ?_
      rintro e w5 ⟨b5, c5, rfl, o5, z5⟩
      have hb5 := on hb4 z5
      replace o4 := o4.below z5
      go_wp2_with fail
      refine (cauchy_impl _ _ _ _ _ _ _ _ _ o4.ints o5.ints).mono ?_
      rintro e w' ⟨rfl, rfl⟩
      have hb6 := hb5
      go_wp2_with fail
      refine (toIntS_any _ _ _ _ _ (h0.below hb6) (by omega)).mono ?_
      rintro e w7 ⟨b7, c7, rfl, o7, z7⟩
      have hb7 := on hb6 z7
      replace o4 := o4.below z7
      replace o5 := o5.below z7
      go_wp2_with fail
      refine (eqIntS_any _ _ _ _ _ _ _ _ _ o4.ints o7.ints).mono ?_
      rintro e w8 ⟨rfl, d8⟩
      have hb8 := onD hb7 d8
      replace o4 := o4.below (d8.below _)
      replace o5 := o5.below (d8.below _)
      go_wp2_with fail
      refine (toIntS_any _ _ _ _ _ (h1.below hb8) (by omega)).mono ?_
      rintro e w9 ⟨b9, c9, rfl, o9, z9⟩
      have hb9 := on hb8 z9
      replace o4 := o4.below z9
      replace o5 := o5.below z9
      go_wp2_with fail
      refine (eqIntS_any _ _ _ _ _ _ _ _ _ o5.ints o9.ints).mono ?_
      rintro e w10 ⟨rfl, d10⟩
      have hb10 := onD hb9 d10
      replace o4 := o4.below (d10.below _)
      replace o5 := o5.below (d10.below _)
      go_wp2_with fail
      go_ret
      exact ⟨rfl, hb10⟩
    · go_enter Try.func3, Try.ntmps3
      go_wp2
      go_ret
      exact ⟨rfl, Below.refl _ _⟩
  · go_enter Try.func3, Try.ntmps3
    go_wp2
    go_ret
    exact ⟨rfl, Below.refl _ _⟩

end Go.Proofs.Ytogblmfmmlbahaa
