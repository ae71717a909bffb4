/- The walk of the law on the sets of columns. -/
import Derived.Test.YtnemkajkidgfjaaCols
import Derived.Test.YtnemkajkidgfjaaOpen
namespace Go.Proofs.Ytnemkajkidgfjaa
open Go.RowKit
set_option linter.unusedVariables false
set_option linter.unusedSimpArgs false

/-- An owned slice reads as a slice. -/
theorem Own.sl {α : Type} {E : TypeId} {o : OS α} {r : RS α} (hr : Reads o r) {lo hi : Nat} {w : World} {a : Option Addr} {n cap : Nat} {xs : List α} (h : Own (O.slice E o) lo hi w [.slice a n cap] xs) : Sl r w a n xs := by
  obtain ⟨fp, h1, _⟩ := h
  obtain ⟨a', n', cap', hv, _, _, hs⟩ := (Reads.slice E hr).2 h1
  simp at hv
  obtain ⟨rfl, rfl, rfl⟩ := hv
  exact hs

theorem subsetsTo_cnt (j : Nat) : cntSS (subsetsTo j) ≤ 3 * j := by
  induction j with
  | zero => simp [subsetsTo, cntSS]
  | succ j ih =>
    have := bitsTo_len (j + 1) 3
    rw [subsetsTo_succ]
    simp only [cntSS, List.map_append, List.sum_append] at ih ⊢
    simp
    omega
theorem colSubsets_facts (k : Int) : (colSubsets k).length ≤ 8 ∧ cntSS (colSubsets k) ≤ 24 := by
  unfold colSubsets
  split
  · rename_i h
    simp only [betw, Bool.and_eq_true, decide_eq_true_eq] at h
    have hP : 2 ^ k.toNat ≤ 8 := by
      rcases (by omega : k.toNat = 1 ∨ k.toNat = 2 ∨ k.toNat = 3) with e | e | e <;> rw [e] <;> decide
    have := subsetsTo_cnt (2 ^ k.toNat - 1)
    exact ⟨by simp [subsetsTo]; omega, by omega⟩
  · simp [cntSS]

set_option maxHeartbeats 800000 in
theorem walk_FnExactColumnSubsets (v0 : Value) (w : World) (h0 : int_in w v0) :
    Calls Try.prog 13 #[v0] w fun e w' => e = .returned (.bool true) ∧ Below w.heap.size w w' := by
  obtain ⟨k0, rfl, h0⟩ := h0
  obtain ⟨hl1, hl2⟩ := colSubsets_facts k0
  go_enter Try.func13, Try.ntmps13
  go_wp2_with fail
  refine (colSubsets_spec _ _).mono ?_
  rintro e w1 ⟨b1, n1, c1, rfl, o1, z1⟩
  have hb1 := z1
  go_wp2_with fail
  refine (colSubsets_impl _ _).mono ?_
  rintro e w2 ⟨b2, n2, c2, rfl, o2, z2⟩
  have hb2 := on hb1 z2
  replace o1 := o1.below z2 (Nat.le_refl _)
  have hn := (o2.sl reads_I).len
  go_wp2_with fail
  refine (eqIntSS_any _ _ _ _ _ _ _ _ _ (o2.sl reads_I) (o1.sl reads_I)).mono ?_
  rintro e w3 ⟨rfl, d3⟩
  have hb3 := onD hb2 d3
  replace o1 := o1.below (d3.below _) (Nat.le_refl _)
  replace o2 := o2.below (d3.below _) (Nat.le_refl _)
  have hn2 : n2 ≤ 100000 := by omega
  obtain ⟨q, hq⟩ : ∃ q, q = cntSS (colSubsets k0) := ⟨_, rfl⟩
  have HQ := Lib.hid hq
  rw [← hq] at hl2
  obtain ⟨fp, r2, nd2, lim2⟩ := o2
  have hm := markII b2 n2 c2 (colSubsets k0) fp 1 w3 r2 nd2 (by omega) (by omega) (by omega)
  rw [← hq] at hm
  have HM := Lib.hid hm
  clear hm hq hn
  go_wp2_with fail
  refine HM.out.mono ?_
  rintro e w4 ⟨rfl, r4, t4⟩
  have o4 : Own oII w1.heap.size w2.heap.size w4 [.slice b2 n2 c2] (mkSS 1 (colSubsets k0)) := ⟨fp, r4, nd2, lim2⟩
  have t4' := t4.kept lim2
  have hb4 : Below w.heap.size w w4 := hb3.trans (t4'.below.mono z1.size)
  replace o1 := o1.kept t4' (.inl (Nat.le_refl _))
  have hh := heldIntSS_any b2 n2 c2 (colSubsets k0) 1 w4 (o4.sl reads_I) (by omega) (by rw [← HQ.out]; omega) (by omega)
  rw [← HQ.out] at hh
  have HH := Lib.hid hh
  clear hh r4 t4 r2
  go_wp2_with fail
  refine HH.out.mono ?_
  rintro e w' ⟨rfl, rfl⟩
  go_wp2_with fail
  refine (colSubsets_impl _ _).mono ?_
  rintro e w5 ⟨b5, n5, c5, rfl, o5, z5⟩
  have hb5 := on hb4 z5
  have hsz4 := t4'.size
  have hsz3 := d3.size
  replace o1 := o1.below z5 (by have := z2.size; omega)
  replace o4 := o4.below z5 (by omega)
  go_wp2_with fail
  refine (eqIntSS_any _ _ _ _ _ _ _ _ _ (o5.sl reads_I) (o1.sl reads_I)).mono ?_
  rintro e w6 ⟨rfl, d6⟩
  have hb6 := onD hb5 d6
  replace o4 := o4.below (d6.below w5.heap.size) (by have := z5.size; omega)
  have hh := heldIntSS_any b2 n2 c2 (colSubsets k0) 1 w6 (o4.sl reads_I) (by omega) (by rw [← HQ.out]; omega) (by omega)
  rw [← HQ.out] at hh
  have HH2 := Lib.hid hh
  clear hh
  go_wp2_with fail
  refine HH2.out.mono ?_
  rintro e w' ⟨rfl, rfl⟩
  go_wp2_with fail
  go_ret
  exact ⟨rfl, hb6⟩

end Go.Proofs.Ytnemkajkidgfjaa
