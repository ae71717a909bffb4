/- Texts joined for one claim: Open. -/
import Derived.Test.YtpgfkjcekhifiaaGreatDoorRows
import Derived.Test.YtpgfkjcekhifiaaGreatDoorQe58ef1fdfa
import Derived.ProofKit
import Derived.OpenShut
import Derived.ShutString
import Derived.ChangeOld
import Derived.Below
import Derived.Deep.Slices
import Derived.Lib.SmallJoins

namespace Go.Proofs.YtpgfkjcekhifiaaGreatDoor

open Go.ChangeShapes Go.WideShapes Go.ChangeAt Go.RowKit

set_option maxRecDepth 100000

theorem own_knob : ownKnob Tryz.prog.godebug = none := by kernel_rfl

theorem laid_out : laidOutB Tryz.prog = true := by kernel_rfl

section

variable {H : Type} {enc : TypeId × Value → H} {W : World} {d : DataW H} {ps : List MemPlace}

theorem addr_none {w : World} {a : Addr} {v : Value} (h : w.cell? a = some v) : a = ⟨a.block, a.off, none⟩ := by
  obtain ⟨b, o, s⟩ := a
  cases s with
  | none => rfl
  | some x => simp only [World.cell?] at h; split at h <;> simp at h

end

end Go.Proofs.YtpgfkjcekhifiaaGreatDoor
