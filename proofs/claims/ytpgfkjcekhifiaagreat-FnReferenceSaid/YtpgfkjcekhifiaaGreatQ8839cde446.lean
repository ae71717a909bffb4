/- Texts joined for one claim: DegQ, Draw6. -/
import Derived.Test.YtpgfkjcekhifiaaGreatQfe232a5b27
import Derived.Test.YtpgfkjcekhifiaaGreatQ53ae14c1bb
import Derived.Test.YtpgfkjcekhifiaaGreatQed084046e8



namespace Go.Proofs.YtpgfkjcekhifiaaGreat

open Go.RowKit

set_option linter.unusedVariables false

set_option linter.unusedSimpArgs false

set_option synthInstance.maxSize 2000

set_option synthInstance.maxHeartbeats 400000

theorem Bytes.at {w w' : World} {n : Nat} {a : Option Addr} (h : Bytes w w.heap.size a n) (hb : Below w.heap.size w w') : Bytes w' w'.heap.size a n :=
  ⟨h.small, fun i hi => by
    obtain ⟨b, off, v, e1, e2, e3, e4⟩ := h.cell i hi
    have := hb.size
    exact ⟨b, off, v, e1, by omega, (hb.cell (p := ⟨b, off + i, none⟩) e2).trans e3, e4⟩⟩

theorem ints_lit (W : World) (xs : List Int) (hx : ∀ x ∈ xs, I64 x) (hl : xs.length ≤ 1000) : Ints (W.alloc (.cells (xs.map (fun x => Value.int .i64 x)).toArray 3)) (some ⟨W.heap.size, 0, none⟩) xs.length xs :=
  ⟨rfl, by omega, fun i hi => by
    refine ⟨W.heap.size, 0, rfl, ?_⟩
    rw [Nat.zero_add]
    have h := fresh_cells W (xs.map (fun x => Value.int .i64 x)) 3 i (.int .i64 (xs.getD i 0)) (by rw [List.getElem?_map, List.getD_eq_getElem?_getD, List.getElem?_eq_getElem hi]; rfl)
    rw [add_zero_addr] at h
    exact h, hx⟩

theorem i64_lits {xs : List Int} (h : (xs.all fun x => decide (-9223372036854775808 ≤ x) && decide (x ≤ 9223372036854775807)) = true) : ∀ x ∈ xs, I64 x := fun x hx => by
  have := List.all_eq_true.1 h x hx
  simp only [Bool.and_eq_true, decide_eq_true_eq] at this
  exact this

end Go.Proofs.YtpgfkjcekhifiaaGreat
