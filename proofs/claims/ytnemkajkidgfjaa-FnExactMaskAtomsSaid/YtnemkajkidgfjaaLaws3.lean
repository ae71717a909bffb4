/- The walks of the laws whose result is a fresh slice of ints: it is compared, marked, and made once more. -/
import Derived.Test.YtnemkajkidgfjaaMask
import Derived.Test.YtnemkajkidgfjaaHelp
import Derived.Test.YtnemkajkidgfjaaOpen
namespace Go.Proofs.Ytnemkajkidgfjaa
open Go.RowKit
set_option linter.unusedVariables false
set_option linter.unusedSimpArgs false

/-- The block of what is owned lies between the base and the heap's end. -/
theorem OwnInts.blocks {B : Nat} {w : World} {a : Option Addr} {n cap : Nat} {xs : List Int} (h : OwnInts B w (.slice a n cap) n xs) : ∀ x, a = some x → B ≤ x.block ∧ x.block < w.heap.size := by
  obtain ⟨a', cap', hv, _, hx⟩ := own_form h.row
  simp at hv
  obtain ⟨rfl, rfl⟩ := hv
  exact hx

theorem OwnInts.keptA {lo hi B : Nat} {w w' : World} {a : Option Addr} {n cap : Nat} {xs : List Int} (h : OwnInts B w (.slice a n cap) n xs) (hk : Kept lo hi w w') (ho : ∀ x, a = some x → x.block < lo ∨ hi ≤ x.block) : OwnInts B w' (.slice a n cap) n xs :=
  h.kept hk (by
    intro k hk
    cases a with
    | none => simp [Value.ownBlock] at hk
    | some x => simp [Value.ownBlock] at hk; subst hk; exact ho x rfl)

theorem bitsTo_small (K m : Nat) (hm : m ≤ 100) : AllI64 (bitsTo K m) := by
  intro x hx
  have := bitsTo_mem K m x hx
  constructor <;> omega
theorem maskAtoms_len (k : Int) : (maskAtoms k).length ≤ 4 := by
  unfold maskAtoms
  split
  · exact bitsTo_len _ _
  · simp

theorem parts_len (l : Int) : ∀ f t, (parts l f t).length ≤ f
  | 0, _ => by simp [parts]
  | f + 1, t => by
    rw [parts]
    split
    · have := parts_len l f (t - min l t); simp; omega
    · simp
theorem fromNorms_len (t l : Int) : (fromNorms t l).length ≤ 8 := by
  unfold fromNorms
  split
  · exact parts_len _ _ _
  · simp

set_option maxHeartbeats 800000 in
theorem walk_FnExactMaskAtoms (v0 : Value) (w : World) (h0 : int_in w v0) :
    Calls Try.prog 5 #[v0] w fun e w' => e = .returned (.bool true) ∧ Below w.heap.size w w' := by
  obtain ⟨k0, rfl, h0⟩ := h0
  have hlen := maskAtoms_len k0
  go_enter Try.func5, Try.ntmps5
  go_wp2_with fail
  refine (maskAtoms_spec _ _ h0).mono ?_
  rintro e w1 ⟨b1, n1, c1, rfl, o1, z1⟩
  have x1 := o1.blocks
  have hb1 := z1
  go_wp2_with fail
  refine (maskAtoms_impl _ _ h0).mono ?_
  rintro e w2 ⟨b2, n2, c2, rfl, o2, z2⟩
  have hb2 := on hb1 z2
  replace o1 := o1.below z2
  have l2 := o2.len
  have hn : n2 ≤ 1000000 := by omega
  clear l2
  go_wp2_with fail
  refine (eqIntS_any _ _ _ _ _ _ _ _ _ o2.ints o1.ints).mono ?_
  rintro e w3 ⟨rfl, d3⟩
  have hb3 := onD hb2 d3
  replace o1 := o1.below (d3.below _)
  replace o2 := o2.below (d3.below _)
  go_wp2_with fail
  refine (markIntS_any _ w3.heap.size _ _ _ _ _ _ o2 (fun x hx => (o2.blocks x hx).2) (by omega) (by omega) (by omega)).mono ?_
  rintro e w4 ⟨rfl, o4, t4⟩
  have hb4 : Below w.heap.size w w4 := hb3.trans (t4.below.mono z1.size)
  replace o1 := o1.keptA t4 (fun x hx => .inl (x1 x hx).2)
  go_wp2_with fail
  refine (heldIntS_any _ _ _ _ _ o4.ints (by omega) (by omega) (by omega)).mono ?_
  rintro e w' ⟨rfl, rfl⟩
  go_wp2_with fail
  refine (maskAtoms_impl _ _ h0).mono ?_
  rintro e w5 ⟨b5, n5, c5, rfl, o5, z5⟩
  have hb5 := on hb4 z5
  replace o1 := o1.below z5
  replace o4 := o4.below z5
  go_wp2_with fail
  refine (eqIntS_any _ _ _ _ _ _ _ _ _ o5.ints o1.ints).mono ?_
  rintro e w6 ⟨rfl, d6⟩
  have hb6 := onD hb5 d6
  replace o4 := o4.below (d6.below _)
  go_wp2_with fail
  refine (heldIntS_any _ _ _ _ _ o4.ints (by omega) (by omega) (by omega)).mono ?_
  rintro e w' ⟨rfl, rfl⟩
  go_wp2_with fail
  go_ret
  exact ⟨rfl, hb6⟩

set_option maxHeartbeats 800000 in
theorem walk_FnExactSequenceFromNorms (v0 : Value) (v1 : Value) (w : World) (h0 : int_in w v0) (h1 : int_in w v1) :
    Calls Try.prog 6 #[v0, v1] w fun e w' => e = .returned (.bool true) ∧ Below w.heap.size w w' := by
  obtain ⟨k0, rfl, h0⟩ := h0
  obtain ⟨k1, rfl, h1⟩ := h1
  have hlen := fromNorms_len k0 k1
  go_enter Try.func6, Try.ntmps6
  go_wp2_with fail
  refine (fromNorms_spec _ _ _ h0 h1).mono ?_
  rintro e w1 ⟨b1, n1, c1, rfl, o1, z1⟩
  have x1 := o1.blocks
  have hb1 := z1
  go_wp2_with fail
  refine (fromNorms_impl _ _ _ h0 h1).mono ?_
  rintro e w2 ⟨b2, n2, c2, rfl, o2, z2⟩
  have hb2 := on hb1 z2
  replace o1 := o1.below z2
  have l2 := o2.len
  have hn : n2 ≤ 1000000 := by omega
  clear l2
  go_wp2_with fail
  refine (eqIntS_any _ _ _ _ _ _ _ _ _ o2.ints o1.ints).mono ?_
  rintro e w3 ⟨rfl, d3⟩
  have hb3 := onD hb2 d3
  replace o1 := o1.below (d3.below _)
  replace o2 := o2.below (d3.below _)
  go_wp2_with fail
  refine (markIntS_any _ w3.heap.size _ _ _ _ _ _ o2 (fun x hx => (o2.blocks x hx).2) (by omega) (by omega) (by omega)).mono ?_
  rintro e w4 ⟨rfl, o4, t4⟩
  have hb4 : Below w.heap.size w w4 := hb3.trans (t4.below.mono z1.size)
  replace o1 := o1.keptA t4 (fun x hx => .inl (x1 x hx).2)
  go_wp2_with fail
  refine (heldIntS_any _ _ _ _ _ o4.ints (by omega) (by omega) (by omega)).mono ?_
  rintro e w' ⟨rfl, rfl⟩
  go_wp2_with fail
  refine (fromNorms_impl _ _ _ h0 h1).mono ?_
  rintro e w5 ⟨b5, n5, c5, rfl, o5, z5⟩
  have hb5 := on hb4 z5
  replace o1 := o1.below z5
  replace o4 := o4.below z5
  go_wp2_with fail
  refine (eqIntS_any _ _ _ _ _ _ _ _ _ o5.ints o1.ints).mono ?_
  rintro e w6 ⟨rfl, d6⟩
  have hb6 := onD hb5 d6
  replace o4 := o4.below (d6.below _)
  go_wp2_with fail
  refine (heldIntS_any _ _ _ _ _ o4.ints (by omega) (by omega) (by omega)).mono ?_
  rintro e w' ⟨rfl, rfl⟩
  go_wp2_with fail
  go_ret
  exact ⟨rfl, hb6⟩

end Go.Proofs.Ytnemkajkidgfjaa
