/- The bound of Cauchy and Schwarz: the root of the product of the second norms. -/
import Derived.Test.YtogblmfmmlbahaaRoot
namespace Go.Proofs.Ytogblmfmmlbahaa
open Go.RowKit
set_option linter.unusedVariables false
set_option linter.unusedSimpArgs false

noncomputable def cauchy (xs ys : List Int) : Int := if isDeg xs && isDeg ys then rootOf (normOf xs 2 * normOf ys 2) 2 else 0

set_option maxHeartbeats 400000 in
theorem cauchy_impl (a b : Option Addr) (n m cap cap' : Nat) (xs ys : List Int) (w : World) (h : Ints w a n xs) (h' : Ints w b m ys) :
    Calls Try.prog 17 #[.slice a n cap, .slice b m cap'] w fun e w' => e = .returned (.int .i64 (cauchy xs ys)) ∧ w = w' := by
  have r1 := norm_rng xs 2
  have r2 := norm_rng ys 2
  have e1 : 0 ≤ normOf xs 2 * normOf ys 2 := Int.mul_nonneg (by omega) (by omega)
  have e2 : normOf xs 2 * normOf ys 2 ≤ 4096 * 4096 := Int.mul_le_mul r1.2 r2.2 (by omega) (by omega)
  have g1 : IntKind.i64.wrap (normOf xs 2 * normOf ys 2) = normOf xs 2 * normOf ys 2 := IntWalk.i64_in _ (by omega)
  have C1 := Lib.hid (norm_impl a n cap xs 2 w h)
  have C2 := Lib.hid (norm_impl b m cap' ys 2 w h')
  by_cases hd1 : isDeg xs = true
  case neg =>
    replace hd1 : isDeg xs = false := by simpa using hd1
    have HE := Lib.hid (show 0 = cauchy xs ys by simp [cauchy, hd1])
    go_enter Try.func17, Try.ntmps17
    go_wp2_with fail
    refine (isDeg_impl _ _ _ _ _ h).mono ?_
    rintro e w' ⟨rfl, rfl⟩
    go_wp2_with fail
    go_ret
    exact ⟨ret_int HE.out, rfl⟩
  by_cases hd2 : isDeg ys = true
  case neg =>
    replace hd2 : isDeg ys = false := by simpa using hd2
    have HE := Lib.hid (show 0 = cauchy xs ys by simp [cauchy, hd2])
    go_enter Try.func17, Try.ntmps17
    go_wp2_with fail
    refine (isDeg_impl _ _ _ _ _ h).mono ?_
    rintro e w' ⟨rfl, rfl⟩
    go_wp2_with fail
    refine (isDeg_impl _ _ _ _ _ h').mono ?_
    rintro e w' ⟨rfl, rfl⟩
    go_wp2_with fail
    go_ret
    exact ⟨ret_int HE.out, rfl⟩
  have HE := Lib.hid (show rootOf (normOf xs 2 * normOf ys 2) 2 = cauchy xs ys by simp [cauchy, hd1, hd2])
  obtain ⟨p, hp⟩ : ∃ p, p = normOf xs 2 := ⟨_, rfl⟩
  obtain ⟨q, hq⟩ : ∃ q, q = normOf ys 2 := ⟨_, rfl⟩
  rw [← hp] at C1 HE g1
  rw [← hq] at C2 HE g1
  clear hp hq r1 r2 e1 e2
  go_enter Try.func17, Try.ntmps17
  go_wp2_with fail
  refine (isDeg_impl _ _ _ _ _ h).mono ?_
  rintro e w' ⟨rfl, rfl⟩
  go_wp2_with fail
  refine (isDeg_impl _ _ _ _ _ h').mono ?_
  rintro e w' ⟨rfl, rfl⟩
  go_wp2_with fail
  refine C1.out.mono ?_
  rintro e w' ⟨rfl, rfl⟩
  go_wp2_with fail
  refine C2.out.mono ?_
  rintro e w' ⟨rfl, rfl⟩
  go_wp2_with fail
  refine (root_impl _ _ _).mono ?_
  rintro e w' ⟨rfl, rfl⟩
  go_wp2_with fail
  go_ret
  exact ⟨ret_int HE.out, rfl⟩

set_option maxHeartbeats 400000 in
theorem cauchy_spec (a b : Option Addr) (n m cap cap' : Nat) (xs ys : List Int) (w : World) (h : Ints w a n xs) (h' : Ints w b m ys) :
    Calls Try.prog 15 #[.slice a n cap, .slice b m cap'] w fun e w' => e = .returned (.int .i64 (cauchy xs ys)) ∧ Drew w w' := by
  have r1 := norm_rng xs 2
  have r2 := norm_rng ys 2
  have e1 : 0 ≤ normOf xs 2 * normOf ys 2 := Int.mul_nonneg (by omega) (by omega)
  have e2 : normOf xs 2 * normOf ys 2 ≤ 4096 * 4096 := Int.mul_le_mul r1.2 r2.2 (by omega) (by omega)
  have g1 : IntKind.i64.wrap (normOf xs 2 * normOf ys 2) = normOf xs 2 * normOf ys 2 := IntWalk.i64_in _ (by omega)
  by_cases hd1 : isDeg xs = true
  case neg =>
    replace hd1 : isDeg xs = false := by simpa using hd1
    have HE := Lib.hid (show 0 = cauchy xs ys by simp [cauchy, hd1])
    go_enter Try.func15, Try.ntmps15
    go_wp2_with fail
    refine (isDeg_spec _ _ _ _ _ h).mono ?_
    rintro e w1 ⟨rfl, z1⟩
    rw [hd1]
    go_wp2_with fail
    go_ret
    exact ⟨ret_int HE.out, z1⟩
  by_cases hd2 : isDeg ys = true
  case neg =>
    replace hd2 : isDeg ys = false := by simpa using hd2
    have HE := Lib.hid (show 0 = cauchy xs ys by simp [cauchy, hd2])
    go_enter Try.func15, Try.ntmps15
    go_wp2_with fail
    refine (isDeg_spec _ _ _ _ _ h).mono ?_
    rintro e w1 ⟨rfl, z1⟩
    rw [hd1]
    go_wp2_with fail
    refine (isDeg_spec _ _ _ _ _ (h'.drew z1)).mono ?_
    rintro e w2 ⟨rfl, z2⟩
    rw [hd2]
    go_wp2_with fail
    go_ret
    exact ⟨ret_int HE.out, z1.trans z2⟩
  have HE := Lib.hid (show rootOf (normOf xs 2 * normOf ys 2) 2 = cauchy xs ys by simp [cauchy, hd1, hd2])
  have C1 : ∀ W, Drew w W → Calls Try.prog 55 #[.slice a n cap, .int .i64 2] W fun e w' => e = .returned (.int .i64 (normOf xs 2)) ∧ Drew W w' := fun W hW => norm_spec a n cap xs 2 W (h.drew hW)
  have C2 : ∀ W, Drew w W → Calls Try.prog 55 #[.slice b m cap', .int .i64 2] W fun e w' => e = .returned (.int .i64 (normOf ys 2)) ∧ Drew W w' := fun W hW => norm_spec b m cap' ys 2 W (h'.drew hW)
  obtain ⟨p, hp⟩ : ∃ p, p = normOf xs 2 := ⟨_, rfl⟩
  obtain ⟨q, hq⟩ : ∃ q, q = normOf ys 2 := ⟨_, rfl⟩
  rw [← hp] at C1 HE g1
  rw [← hq] at C2 HE g1
  have K1 := Lib.hid C1
  have K2 := Lib.hid C2
  clear hp hq r1 r2 e1 e2 C1 C2
  go_enter Try.func15, Try.ntmps15
  go_wp2_with fail
  refine (isDeg_spec _ _ _ _ _ h).mono ?_
  rintro e w1 ⟨rfl, z1⟩
  rw [hd1]
  go_wp2_with fail
  refine (isDeg_spec _ _ _ _ _ (h'.drew z1)).mono ?_
  rintro e w2 ⟨rfl, z2⟩
  rw [hd2]
  go_wp2_with fail
  refine (K1.out _ (z1.trans z2)).mono ?_
  rintro e w3 ⟨rfl, z3⟩
  go_wp2_with fail
  refine (K2.out _ ((z1.trans z2).trans z3)).mono ?_
  rintro e w4 ⟨rfl, z4⟩
  go_wp2_with fail
  refine (root_spec _ _ _).mono ?_
  rintro e w' ⟨rfl, rfl⟩
  go_wp2_with fail
  go_ret
  exact ⟨ret_int HE.out, ((z1.trans z2).trans z3).trans z4⟩

end Go.Proofs.Ytogblmfmmlbahaa
