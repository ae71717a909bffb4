/- Texts joined for one claim: OB. -/
import Derived.Test.YtpgfkjcekhifiaaGreatDoorQccb1139315
import Derived.Test.YtpgfkjcekhifiaaGreatDoorQ92c501f38f

namespace Go.Proofs.YtpgfkjcekhifiaaGreatDoor

open Go.ChangeShapes Go.WideShapes Go.ChangeAt Go.RowKit

set_option linter.unusedVariables false

set_option maxRecDepth 100000

def R.byte : RS Int := ⟨1, fun _ cs x => cs = [.int .u8 x] ∧ 0 ≤ x ∧ x ≤ 255, fun h => by rw [h.1]; rfl, fun h _ => h⟩

theorem opens_byte : Opens 5 R.byte := by
  intro H enc W fuel cs x h
  obtain ⟨n, h1, _, hw⟩ := DataW.trod_int Tryz.underlying5 h
  have h9 : 0 ≤ n ∧ n ≤ 255 := by
    simp only [Lit.wf, Bool.and_eq_true, decide_eq_true_eq] at hw
    have e1 : IntKind.u8.min = 0 := by decide
    have e2 : IntKind.u8.max = 255 := by decide
    rw [e1, e2] at hw
    exact hw
  exact ⟨n, h1, h9⟩

def kB_in (w : World) (v : Value) : Prop := ∃ a n cap, v = .slice a n cap ∧ Bytes w w.heap.size a n

theorem opens_B : Opens 22 (R.slice R.byte) := opens_slice Tryz.underlying22 (by kernel_rfl) (by decide) opens_byte

theorem open_kB_in {H : Type} {enc : TypeId × Value → H} {W : World} {d : DataW H} {ps : List MemPlace} {v : Value} (hv : Value.okWide Tryz.prog W .any 0 22 v) (h : DataW.Trod enc Tryz.prog W 0 (fun _ => true) true 22 v d ps) : kB_in W v := by
  obtain ⟨a, l, c, rfl⟩ := okWide_slice Tryz.underlying22 hv
  obtain ⟨fuel, hf⟩ := h
  obtain ⟨xs, hx⟩ := opens_B H enc W fuel _ _ hf
  have hx' : (R.slice R.byte).rep W [.slice a l c] xs := by simpa [Value.cells] using hx
  obtain ⟨a', n, cap, e, _, _, hs⟩ := hx'
  simp only [List.cons.injEq, and_true, Value.slice.injEq] at e
  obtain ⟨rfl, rfl, rfl⟩ := e
  refine ⟨_, _, _, rfl, hs.small, fun i hi => ?_⟩
  have hl := hs.len
  obtain ⟨b, off, cs, ha, ⟨hc, h0, h1⟩, hcell⟩ := hs.elem i xs[i] (List.getElem?_eq_getElem (by omega))
  subst hc
  have h9 := hcell 0 _ rfl
  simp only [R.byte, Nat.mul_one, Nat.add_zero] at h9
  exact ⟨b, off, xs[i], ha, cell_lt h9, h9, h0, h1⟩

end Go.Proofs.YtpgfkjcekhifiaaGreatDoor
