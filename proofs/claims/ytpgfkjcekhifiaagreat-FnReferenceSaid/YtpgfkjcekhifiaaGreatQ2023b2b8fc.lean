/- Texts joined for one claim: QuietB. -/
import Derived.Test.YtpgfkjcekhifiaaGreatQ22cca73baf
import Derived.Lib.QuietBelow

namespace Go.Proofs.YtpgfkjcekhifiaaGreat

open Go.RowKit Go.Sort

set_option linter.unusedVariables false

theorem box_frozen {w wr : World} {cs : Array Value} {T : TypeId} {i : Nat} (hb : Below (w.heap.size + 1) (w.alloc (.cells cs T)) wr) : wr.frozen? ⟨w.heap.size, i, none⟩ = false := by
  rw [hb.frozen (p := ⟨w.heap.size, i, none⟩) (Nat.lt_succ_self _)]
  have h : (w.alloc (.cells cs T)).heap[w.heap.size]? = some (.cells cs T) := heap_alloc_new w _
  simp only [World.frozen?, h]
  simp

end Go.Proofs.YtpgfkjcekhifiaaGreat
