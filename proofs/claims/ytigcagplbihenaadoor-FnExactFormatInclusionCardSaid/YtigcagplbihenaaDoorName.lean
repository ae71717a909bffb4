/- Contracts: names of one letter. -/
import Derived.Test.YtigcagplbihenaaDoorDeg
namespace Go.Proofs.YtigcagplbihenaaDoor
open Go.RowKit
set_option linter.unusedVariables false
set_option linter.unusedSimpArgs false

/-- One letter from a to z. -/
def nameB (s : ByteArray) : Bool := decide (s.size = 1) && betw (s.data.toList.getD 0 0).toNat 97 122
theorem nameB_no {s : ByteArray} (h : s.size ≠ 1) : nameB s = false := by simp [nameB, h]
theorem nameB_one {c : UInt8} {s : ByteArray} (h : s = ⟨⟨[c]⟩⟩) : nameB s = betw c.toNat 97 122 := by subst h; simp [nameB, ByteArray.size]
theorem size_one {s : ByteArray} (h : s.size = 1) : ∃ c, s = ⟨⟨[c]⟩⟩ := by
  obtain ⟨⟨l⟩⟩ := s
  match l, h with
  | [c], _ => exact ⟨c, rfl⟩

theorem nameOk_any (s : ByteArray) (w : World) (hs : s.size ≤ 9223372036854775807) :
    Calls Tryd.prog 57 #[.string s] w fun e w' => e = .returned (.bool (nameB s)) ∧ w = w' := by
  by_cases h : s.size = 1
  · obtain ⟨c, rfl⟩ := size_one h
    have HE := Lib.hid (nameB_one (c := c) rfl)
    clear h
    go_enter Tryd.func57, Tryd.ntmps57
    go_wp2_with fail
    all_goals
      go_ret
      refine ⟨ret_bool (Eq.trans ?_ HE.out.symm), rfl⟩
      have e : ∀ h, ((⟨⟨[c]⟩⟩ : ByteArray)[0]'h) = c := fun _ => rfl
      simp only [e] at *
      clear HE
      first | (simp [betw]; done) | (simp [betw]; omega)
  · have HE := Lib.hid (nameB_no h)
    have h' : ((s.size : Int) == 1) = false := by rw [beq_eq_false_iff_ne]; omega
    clear h
    go_enter Tryd.func57, Tryd.ntmps57
    go_wp2_with fail
    go_ret
    exact ⟨ret_bool HE.out.symm, rfl⟩

theorem l4Name_any (s : ByteArray) (w : World) (hs : s.size ≤ 9223372036854775807) :
    Calls Tryd.prog 54 #[.string s] w fun e w' => e = .returned (.bool (nameB s)) ∧ w = w' := by
  by_cases h : s.size = 1
  · obtain ⟨c, rfl⟩ := size_one h
    have HE := Lib.hid (nameB_one (c := c) rfl)
    clear h
    go_enter Tryd.func54, Tryd.ntmps54
    go_wp2_with fail
    all_goals
      go_ret
      refine ⟨ret_bool (Eq.trans ?_ HE.out.symm), rfl⟩
      have e : ∀ h, ((⟨⟨[c]⟩⟩ : ByteArray)[0]'h) = c := fun _ => rfl
      simp only [e] at *
      clear HE
      first | (simp [betw]; done) | (simp [betw]; omega)
  · have HE := Lib.hid (nameB_no h)
    have h' : ((s.size : Int) == 1) = false := by rw [beq_eq_false_iff_ne]; omega
    clear h
    go_enter Tryd.func54, Tryd.ntmps54
    go_wp2_with fail
    go_ret
    exact ⟨ret_bool HE.out.symm, rfl⟩
end Go.Proofs.YtigcagplbihenaaDoor
