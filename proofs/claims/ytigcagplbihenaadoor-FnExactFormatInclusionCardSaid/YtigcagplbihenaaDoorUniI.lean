/- The laws' helpers on slices of ints, in the one form that all kinds of data share. -/
import Derived.Test.YtigcagplbihenaaDoorHelp2
namespace Go.Proofs.YtigcagplbihenaaDoor
open Go.RowKit
set_option linter.unusedVariables false
set_option linter.unusedSimpArgs false

theorem Own.rd {α : Type} {o : OS α} {r : RS α} (hr : Reads o r) {lo hi : Nat} {w : World} {cs : List Value} {x : α} (h : Own o lo hi w cs x) : r.rep w cs x := by
  obtain ⟨fp, h1, _⟩ := h
  exact hr.2 h1

/-- What is left of a bound behind k things, -1 if they are too many. -/
def szR (left : Int) (k : Nat) : Int := if (k : Int) ≤ left then left - k else -1
theorem szR_add {left : Int} {a b : Nat} (h : (a : Int) ≤ left) : szR left (a + b) = szR (left - a) b := by
  unfold szR
  by_cases hb : (b : Int) ≤ left - a
  · rw [if_pos (by omega), if_pos hb]; omega
  · rw [if_neg (by omega), if_neg hb]
theorem szR_no {left : Int} {a : Nat} (b : Nat) (h : ¬ (a : Int) ≤ left) : szR left (a + b) = -1 := by
  unfold szR; rw [if_neg (by omega)]
theorem szR_no0 {left : Int} {a : Nat} (h : ¬ (a : Int) ≤ left) : szR left a = -1 := by
  unfold szR; rw [if_neg h]
theorem szR_yes {left : Int} {a : Nat} (h : (a : Int) ≤ left) : szR left a = left - a := by
  unfold szR; rw [if_pos h]
/-- It is -1, or the bound holds. -/
theorem szR_cases (left : Int) (k : Nat) : szR left k = -1 ∧ ¬ (k : Int) ≤ left ∨ szR left k = left - k ∧ (k : Int) ≤ left := by
  unfold szR
  by_cases h : (k : Int) ≤ left
  · exact .inr ⟨if_pos h, h⟩
  · exact .inl ⟨if_neg h, h⟩

theorem rI_open {w : World} {v : Value} {xs : List Int} (h : rI.rep w [v] xs) : ∃ a cap, v = .slice a xs.length cap ∧ xs.length ≤ cap ∧ cap ≤ 9223372036854775807 ∧ Ints w a xs.length xs := by
  obtain ⟨a, n, cap, hv, h1, h2, hs⟩ := h
  simp at hv
  have := hs.len
  subst this
  exact ⟨a, cap, hv, h1, h2, hs.ints⟩
theorem rI_mk {w : World} {a : Option Addr} {n cap : Nat} {xs : List Int} (h : Ints w a n xs) (h1 : n ≤ cap) (h2 : cap ≤ 9223372036854775807) : rI.rep w [.slice a n cap] xs := ⟨a, n, cap, rfl, h1, h2, h.sl⟩

theorem rI_form {w : World} {cs : List Value} {xs : List Int} (h : rI.rep w cs xs) : ∃ b n c, cs = [.slice b n c] := by
  obtain ⟨a, n, cap, hv, _⟩ := h
  exact ⟨_, _, _, hv⟩
theorem oI_form1 {lo hi : Nat} {w : World} {v : Value} {xs : List Int} (h : Own oI lo hi w [v] xs) : ∃ b n c, v = .slice b n c := by
  obtain ⟨b, n, c, hv⟩ := rI_form (h.rd reads_I)
  simp at hv
  exact ⟨_, _, _, hv⟩
/-- A store below what is owned. -/
theorem Own.setOut {α : Type} {o : OS α} {lo hi : Nat} {w w' : World} {cs : List Value} {x : α} (h : Own o lo hi w cs x) {p : Addr} {u : Value} (hw : w' = w.setCell p u) (hp : p.block < lo) : Own o lo hi w' cs x := by
  obtain ⟨fp, h1, h2, h3⟩ := h
  exact ⟨fp, o.frame h1 (fun k hk => by rw [hw]; exact Below.heap_setCell _ _ _ _ (by have := h3 k hk; omega)), h2, h3⟩
theorem bytes_ne {s t : ByteArray} (h : s ≠ t) : (s.toList == t.toList) = false := by
  rw [beq_eq_false_iff_ne]
  intro e
  apply h
  rw [ByteArray.toList_eq, ByteArray.toList_eq] at e
  cases s; cases t
  simp at e
  simp [e]

def bulk_I (xs : List Int) : Nat := xs.length
def cnt_I (xs : List Int) : Nat := xs.length
theorem cnt_le_I (xs : List Int) : cnt_I xs ≤ 2 * bulk_I xs := by unfold cnt_I bulk_I; omega
def mk_I (k : Int) (xs : List Int) : List Int := marks k xs.length

theorem sz_I (v : Value) (xs : List Int) (left : Int) (w : World) (h : rI.rep w [v] xs) (h0 : 0 ≤ left) (h1 : left ≤ 1048576) :
    Calls Tryd.prog 60 #[v, .int .i64 left] w fun e w' => e = .returned (.int .i64 (szR left (bulk_I xs))) ∧ w = w' := by
  obtain ⟨a, cap, rfl, hn1, hn2, hi⟩ := rI_open h
  have hn := hi.small
  unfold bulk_I
  by_cases hl : (xs.length : Int) ≤ left
  · have HE := Lib.hid (szR_yes hl)
    go_enter Tryd.func60, Tryd.ntmps60
    go_wp2
    go_ret
    exact ⟨ret_int HE.out.symm, rfl⟩
  · have HE := Lib.hid (szR_no0 hl)
    go_enter Tryd.func60, Tryd.ntmps60
    go_wp2
    go_ret
    exact ⟨ret_int HE.out.symm, rfl⟩

theorem to_I (v : Value) (xs : List Int) (w : World) (h : rI.rep w [v] xs) (hn : bulk_I xs ≤ 1048576) :
    Calls Tryd.prog 64 #[v] w fun e w' => ∃ u, e = .returned u ∧ Own oI w.heap.size w'.heap.size w' [u] xs ∧ Below w.heap.size w w' := by
  obtain ⟨a, cap, rfl, hn1, hn2, hi⟩ := rI_open h
  unfold bulk_I at hn
  exact (toIntS_any a _ cap xs w hi (by omega)).mono fun e w' ⟨b, c, he, ho, hb⟩ => ⟨_, he, ho.own, hb⟩

theorem eq_I (u v : Value) (xs ys : List Int) (w : World) (h : rI.rep w [u] xs) (h' : rI.rep w [v] ys) :
    Calls Tryd.prog 68 #[u, v] w fun e w' => e = .returned (.bool (decide (xs = ys))) ∧ Drew w w' := by
  obtain ⟨a, cap, rfl, _, _, hi⟩ := rI_open h
  obtain ⟨a', cap', rfl, _, _, hi'⟩ := rI_open h'
  exact eqIntS_any _ _ _ _ _ _ _ _ _ hi hi'

theorem mark_I (u : Value) (xs : List Int) (k : Int) (lo hi : Nat) (w : World) (h : Own oI lo hi w [u] xs) (hh : hi ≤ w.heap.size) (k0 : 0 ≤ k) (k1 : k + cnt_I xs ≤ 1000000000) :
    Calls Tryd.prog 72 #[u, .int .i64 k] w fun e w' => e = .returned (.int .i64 (k + cnt_I xs)) ∧ Own oI lo hi w' [u] (mk_I k xs) ∧ Turn lo hi w w' := by
  obtain ⟨fp, h1, h2, h3⟩ := h
  obtain ⟨a, cap, hv, _, _⟩ := oI_own h1
  simp at hv
  subst hv
  unfold cnt_I at *
  exact (markI a _ cap xs fp k w h1 k0 (by omega) (by omega)).mono fun e w' ⟨he, h4, h5⟩ => ⟨he, ⟨fp, h4, h2, h3⟩, (h5.kept h3).turn⟩

theorem held_I (u : Value) (xs : List Int) (k : Int) (w : World) (h : rI.rep w [u] (mk_I k xs)) (k0 : 0 ≤ k) (k1 : k + cnt_I xs ≤ 1000000000) :
    Calls Tryd.prog 73 #[u, .int .i64 k] w fun e w' => e = .returned (.int .i64 (k + cnt_I xs)) ∧ w = w' := by
  obtain ⟨a, cap, rfl, _, _, hi⟩ := rI_open h
  unfold mk_I at hi ⊢
  unfold cnt_I at *
  rw [marks_length] at hi ⊢
  exact heldIntS_any _ _ _ _ _ hi k0 (by omega) (by omega)

end Go.Proofs.YtigcagplbihenaaDoor
