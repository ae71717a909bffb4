/- Texts joined for one claim: DegQ, Draw6. -/
import Derived.Test.YtpgfkjcekhifiaaDoorQ4240854152
import Derived.Test.YtpgfkjcekhifiaaDoorQ37916211e5
import Derived.Test.YtpgfkjcekhifiaaDoorQ532fc1e8c9

/- Contracts: degree sequences of tables, and the greatest degree. -/
namespace Go.Proofs.YtpgfkjcekhifiaaDoor
open Go.RowKit
set_option linter.unusedVariables false
set_option linter.unusedSimpArgs false
set_option synthInstance.maxSize 2000
set_option synthInstance.maxHeartbeats 400000

theorem degSeq_len (t : DT) (cs : List Int) : (degSeq t cs).length ≤ 8 := by
  unfold degSeq
  rw [downS_len]
  have h1 := grpV_facts t cs
  have h2 := grpN_facts t cs
  omega

def maxDeg (t : DT) (cs : List Int) : Int := headOr (degSeq t cs)

end Go.Proofs.YtpgfkjcekhifiaaDoor

/- Contracts: the reference's draws (6): degree sequences. -/
namespace Go.Proofs.YtpgfkjcekhifiaaDoor
open Go.RowKit
set_option linter.unusedVariables false
set_option linter.unusedSimpArgs false
set_option synthInstance.maxSize 2000
set_option synthInstance.maxHeartbeats 400000

theorem Bytes.at {w w' : World} {n : Nat} {a : Option Addr} (h : Bytes w w.heap.size a n) (hb : Below w.heap.size w w') : Bytes w' w'.heap.size a n :=
  ⟨h.small, fun i hi => by
    obtain ⟨b, off, v, e1, e2, e3, e4⟩ := h.cell i hi
    have := hb.size
    exact ⟨b, off, v, e1, by omega, (hb.cell (p := ⟨b, off + i, none⟩) e2).trans e3, e4⟩⟩
theorem rI_open9 {w : World} {b : Option Addr} {n c : Nat} {xs : List Int} (h : rI.rep w [.slice b n c] xs) : n = xs.length ∧ n ≤ c ∧ c ≤ 9223372036854775807 ∧ Ints w b n xs := by
  obtain ⟨a, cap, e, h1, h2, h3⟩ := rI_open h
  injection e with e1 e2 e3
  subst e1 e2 e3
  exact ⟨rfl, h1, h2, h3⟩
theorem own_some {lo hi : Nat} {w : World} {b : Option Addr} {n c : Nat} {xs : List Int} (h : Own oI lo hi w [.slice b n c] xs) (hn : 0 < n) : ∃ g, b = some ⟨g, 0, none⟩ := by
  obtain ⟨fp, h1, _, _⟩ := h
  obtain ⟨a, cap, e, ho, _⟩ := oI_own h1
  simp only [List.cons.injEq, and_true, Value.slice.injEq] at e
  obtain ⟨rfl, rfl, rfl⟩ := e
  rcases ho.row.2 with ⟨hv, _⟩ | ⟨g, cap, cur, hv, _⟩
  · simp only [Value.slice.injEq] at hv
    omega
  · simp only [Value.slice.injEq] at hv
    exact ⟨g, hv.1⟩
theorem ints_lit (W : World) (xs : List Int) (hx : ∀ x ∈ xs, I64 x) (hl : xs.length ≤ 1000) : Ints (W.alloc (.cells (xs.map (fun x => Value.int .i64 x)).toArray 3)) (some ⟨W.heap.size, 0, none⟩) xs.length xs :=
  ⟨rfl, by omega, fun i hi => by
    refine ⟨W.heap.size, 0, rfl, ?_⟩
    rw [Nat.zero_add]
    have h := fresh_cells W (xs.map (fun x => Value.int .i64 x)) 3 i (.int .i64 (xs.getD i 0)) (by rw [List.getElem?_map, List.getD_eq_getElem?_getD, List.getElem?_eq_getElem hi]; rfl)
    rw [add_zero_addr] at h
    exact h, hx⟩
theorem i64_lits {xs : List Int} (h : (xs.all fun x => decide (-9223372036854775808 ≤ x) && decide (x ≤ 9223372036854775807)) = true) : ∀ x ∈ xs, I64 x := fun x hx => by
  have := List.all_eq_true.1 h x hx
  simp only [Bool.and_eq_true, decide_eq_true_eq] at this
  exact this

end Go.Proofs.YtpgfkjcekhifiaaDoor
