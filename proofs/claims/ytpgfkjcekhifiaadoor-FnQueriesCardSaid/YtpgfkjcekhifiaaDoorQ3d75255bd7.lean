/- Texts joined for one claim: Open. -/
import Derived.Test.YtpgfkjcekhifiaaDoorRows
import Derived.Test.YtpgfkjcekhifiaaDoorQ1236d00423
import Derived.ProofKit
import Derived.OpenShut
import Derived.ShutString
import Derived.ChangeOld
import Derived.Below
import Derived.Deep.Slices
import Derived.Lib.SmallJoins

/- What the arguments of a law read as: the form's own reading opened, kind by kind, to the words of the contracts. -/
namespace Go.Proofs.YtpgfkjcekhifiaaDoor
open Go.ChangeShapes Go.WideShapes Go.ChangeAt Go.RowKit
set_option maxRecDepth 100000

theorem own_knob : ownKnob Tryd.prog.godebug = none := by kernel_rfl
theorem laid_out : laidOutB Tryd.prog = true := by kernel_rfl

section
variable {H : Type} {enc : TypeId × Value → H} {W : World} {d : DataW H} {ps : List MemPlace}

/-- An int. -/
def int_in (_w : World) (v : Value) : Prop := ∃ x, v = .int .i64 x ∧ I64 x
/-- A slice of ints. -/
def ints_in (w : World) (v : Value) : Prop := ∃ a n cap xs, v = .slice a n cap ∧ Ints w a n xs

theorem wf_I64 {x : Int} (h : (Lit.int .i64 x).wf = true) : I64 x := by
  exact bounds_i64 h

theorem open_int_in {v : Value} (hv : Value.okWide Tryd.prog W .any 0 3 v) (h : DataW.Trod enc Tryd.prog W 0 (fun _ => true) true 3 v d ps) : int_in W v := by
  obtain ⟨x, rfl, _, _, hw⟩ := open_int Tryd.underlying3 hv h
  exact ⟨x, rfl, wf_I64 hw⟩

theorem addr_none {w : World} {a : Addr} {v : Value} (h : w.cell? a = some v) : a = ⟨a.block, a.off, none⟩ := by
  obtain ⟨b, o, s⟩ := a
  cases s with
  | none => rfl
  | some x => simp only [World.cell?] at h; split at h <;> simp at h

theorem trod_ints {v : Value} {fuel : Nat} {x : DataW H × List MemPlace} (h : DataW.trod enc Tryd.prog W 0 (fun _ => true) true fuel 34 [v] = some x) : ints_in W v := by
  rcases open_ints Tryd.underlying34 Tryd.underlying3 (by kernel_rfl) h with ⟨hcs, _⟩ | ⟨a, l, c, zs, hcs, _, hl, hm, hz, _, hcell, hwz⟩
  · simp at hcs
    exact ⟨none, 0, 0, [], hcs, rfl, by omega, fun i hi => by omega, by intro x hx; cases hx⟩
  · simp at hcs hz
    refine ⟨some a, l, c, zs.take l, hcs, by simp; omega, by unfold maxLen at hm; omega, fun i hi => ?_, fun x hx => wf_I64 (hwz x (List.mem_of_mem_take hx))⟩
    have h0 := hcell 0 (by omega)
    have e := addr_none (by simpa [Addr.add] using h0)
    have hi' := hcell i (by omega)
    refine ⟨a.block, a.off, congrArg some e, ?_⟩
    rw [e] at hi'
    have e2 : (⟨a.block, a.off, none⟩ : Addr).add i = ⟨a.block, a.off + i, none⟩ := by
      unfold Addr.add; split
      · rename_i h; subst h; rfl
      · rfl
    rw [e2] at hi'
    rw [hi']
    congr 2
    simp [List.getD_eq_getElem?_getD, hi]

theorem open_ints_in {v : Value} (hv : Value.okWide Tryd.prog W .any 0 34 v) (h : DataW.Trod enc Tryd.prog W 0 (fun _ => true) true 34 v d ps) : ints_in W v := by
  obtain ⟨a, l, c, rfl⟩ := okWide_slice Tryd.underlying34 hv
  obtain ⟨fuel, hf⟩ := h
  exact trod_ints (by simpa [Value.cells] using hf)

end
end Go.Proofs.YtpgfkjcekhifiaaDoor
