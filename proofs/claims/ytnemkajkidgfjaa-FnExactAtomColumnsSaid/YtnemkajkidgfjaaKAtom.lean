/- The laws' helpers on atoms. -/
import Derived.Test.YtnemkajkidgfjaaUniI
namespace Go.Proofs.Ytnemkajkidgfjaa
open Go.RowKit
set_option linter.unusedVariables false
set_option linter.unusedSimpArgs false

abbrev DAtom := ByteArray × List Int
def rA : RS DAtom := R.pair R.str rI
def oA : OS DAtom := O.pair O.str oI
theorem reads_A : Reads oA rA := Reads.pair Reads.str reads_I
theorem rA_open {w : World} {cs : List Value} {x : DAtom} (h : rA.rep w cs x) : ∃ v, cs = [.string x.1, v] ∧ x.1.size ≤ 9223372036854775807 ∧ rI.rep w [v] x.2 := by
  obtain ⟨c1, c2, rfl, ⟨rfl, hs⟩, a, n, cap, rfl, h1, h2, h3⟩ := h
  exact ⟨_, rfl, hs, a, n, cap, rfl, h1, h2, h3⟩
theorem oA_mk {lo hi : Nat} {w : World} {s : ByteArray} {v : Value} {xs : List Int} (hs : s.size ≤ 9223372036854775807) (h : Own oI lo hi w [v] xs) : Own oA lo hi w [.string s, v] (s, xs) := by
  obtain ⟨fp, h1, h2, h3⟩ := h
  exact ⟨fp, ⟨[.string s], [v], [], fp, rfl, rfl, ⟨rfl, hs, rfl⟩, h1⟩, h2, h3⟩
theorem oA_open {lo hi : Nat} {w : World} {cs : List Value} {x : DAtom} (h : Own oA lo hi w cs x) : ∃ v, cs = [.string x.1, v] ∧ x.1.size ≤ 9223372036854775807 ∧ Own oI lo hi w [v] x.2 := by
  obtain ⟨fp, ⟨c1, c2, f1, f2, rfl, rfl, ⟨rfl, hs, rfl⟩, h1⟩, h2, h3⟩ := h
  obtain ⟨a, cap, rfl, _, _⟩ := oI_own h1
  exact ⟨_, rfl, hs, f2, h1, by simpa using h2, fun k hk => h3 k (by simpa using hk)⟩

theorem rA_form {w : World} {cs : List Value} {x : DAtom} (h : rA.rep w cs x) : ∃ b n c, cs = [.string x.1, .slice b n c] := by
  obtain ⟨v, rfl, _, hi⟩ := rA_open h
  obtain ⟨a, cap, rfl, _⟩ := rI_open hi
  exact ⟨_, _, _, rfl⟩
theorem oA_form {lo hi : Nat} {w : World} {cs : List Value} {x : DAtom} (h : Own oA lo hi w cs x) : ∃ b n c, cs = [.string x.1, .slice b n c] := rA_form (h.rd reads_A)

def bulk_A (x : DAtom) : Nat := x.1.size + bulk_I x.2
def cnt_A (x : DAtom) : Nat := cnt_I x.2
theorem cnt_le_A (x : DAtom) : cnt_A x ≤ 2 * bulk_A x := by have := cnt_le_I x.2; unfold cnt_A bulk_A; omega
def mk_A (k : Int) (x : DAtom) : DAtom := (x.1, mk_I k x.2)

theorem bytes_ne {s t : ByteArray} (h : s ≠ t) : (s.toList == t.toList) = false := by
  rw [beq_eq_false_iff_ne]
  intro e
  apply h
  rw [ByteArray.toList_eq, ByteArray.toList_eq] at e
  cases s; cases t
  simp at e
  simp [e]

set_option maxHeartbeats 400000 in
theorem sz_A (cs : List Value) (x : DAtom) (left : Int) (w : World) (h : rA.rep w cs x) (h0 : 0 ≤ left) (h1 : left ≤ 1048576) :
    Calls Try.prog 44 #[.agg cs.toArray, .int .i64 left] w fun e w' => e = .returned (.int .i64 (szR left (bulk_A x))) ∧ Below w.heap.size w w' := by
  obtain ⟨s, xs⟩ := x
  obtain ⟨v, rfl, hs, hi⟩ := rA_open h
  have hB : Below w.heap.size w (w.alloc (.cells #[.string s, v] 40)) := (Below.refl _ _).alloc (Nat.le_refl _) _
  simp only at hs hi
  unfold bulk_A
  by_cases hl : (s.size : Int) ≤ left
  · have HE := Lib.hid (szR_add (b := bulk_I xs) hl)
    have HC := Lib.hid (sz_I v xs (left - s.size) _ (rI.mono hi hB) (by omega) (by omega))
    obtain ⟨q, hq⟩ : ∃ q, q = szR (left - s.size) (bulk_I xs) := ⟨_, rfl⟩
    rw [← hq] at HC HE
    have HB := Lib.hid hB
    have hq2 := szR_cases (left - s.size) (bulk_I xs)
    rw [← hq] at hq2
    clear hq hB h hi
    rcases hq2 with ⟨rfl, _⟩ | ⟨hq2, hq3⟩
    · go_enter Try.func44, Try.ntmps44
      go_wp2_with (go_at_call 56; refine HC.out.mono ?_; rintro e w' ⟨rfl, rfl⟩)
      go_ret
      exact ⟨ret_int HE.out.symm, HB.out⟩
    · have hq4 : 0 ≤ q := by omega
      clear hq2 hq3
      go_enter Try.func44, Try.ntmps44
      go_wp2_with (go_at_call 56; refine HC.out.mono ?_; rintro e w' ⟨rfl, rfl⟩)
      go_ret
      exact ⟨ret_int HE.out.symm, HB.out⟩
  · have HE := Lib.hid (szR_no (bulk_I xs) hl)
    have HB := Lib.hid hB
    clear hB h hi
    go_enter Try.func44, Try.ntmps44
    go_wp2
    go_ret
    exact ⟨ret_int HE.out.symm, HB.out⟩

set_option maxHeartbeats 400000 in
theorem to_A (cs : List Value) (x : DAtom) (w : World) (h : rA.rep w cs x) (hn : bulk_A x ≤ 1048576) :
    Calls Try.prog 46 #[.agg cs.toArray] w fun e w' => ∃ us, e = .returned (.agg us.toArray) ∧ Own oA w.heap.size w'.heap.size w' us x ∧ Below w.heap.size w w' := by
  obtain ⟨s, xs⟩ := x
  obtain ⟨v, rfl, hs, hi⟩ := rA_open h
  simp only at hs hi
  unfold bulk_A at hn
  have hi' : bulk_I xs ≤ 1048576 := by simp only at hn; omega
  clear h hn
  go_enter Try.func46, Try.ntmps46
  go_wp2_with fail
  refine (to_I v xs _ (rI.mono hi ((((Below.refl _ _).alloc (Nat.le_refl _) _).alloc (by simp) _).alloc (by simp <;> omega) _)) hi').mono ?_
  rintro e w1 ⟨u, rfl, ho, hb⟩
  obtain ⟨hcc, hff⟩ := bcell hb
  have hz := hb.size
  have HO := Lib.hid ho
  have HB := Lib.hid hb
  have hform : ∃ b n c, u = .slice b n c := by
    obtain ⟨fp, h1, _⟩ := ho
    obtain ⟨a, cap, hv, _⟩ := oI_own h1
    simp at hv
    exact ⟨_, _, _, hv⟩
  obtain ⟨b, n, c, rfl⟩ := hform
  simp at hz
  clear ho hb
  go_wp2_with fail
  have HO1 := HO.out
  have HB1 := HB.out
  simp only [World.size_alloc] at HO1 HB1
  refine bodyPost_ret (v := .agg #[.string s, .slice b n c]) (by simp [results, Try.results46, go_sem, hcc, hff, hz]) rfl ⟨_, rfl, oA_mk hs ?_, ?_⟩
  · have hk : ∀ (W : World) (p : Addr) (u : Value), p.block < w.heap.size + 1 + 1 + 1 → Own oI (w.heap.size + 1 + 1 + 1) w1.heap.size W [.slice b n c] xs → Own oI (w.heap.size + 1 + 1 + 1) w1.heap.size (W.setCell p u) [.slice b n c] xs := fun W p u hp ho => by
      obtain ⟨fp, h1, h2, h3⟩ := ho
      exact ⟨fp, oI.frame h1 (fun k hk => Below.heap_setCell _ _ _ _ (by have := h3 k hk; omega)), h2, h3⟩
    exact (hk _ _ _ (by simp <;> omega) (hk _ _ _ (by simp <;> omega) (hk _ _ _ (by simp <;> omega) HO1))).mono (by omega) (by simp [World.setCell])
  · exact (((((((Below.refl _ _).alloc (Nat.le_refl _) _).alloc (by simp) _).alloc (by simp <;> omega) _).trans (HB1.mono (by omega))).setCell (by simp <;> omega) _).setCell (by simp) _).setCell (by simp) _

set_option maxHeartbeats 400000 in
theorem eq_A (cs ds : List Value) (x y : DAtom) (w : World) (h : rA.rep w cs x) (h' : rA.rep w ds y) :
    Calls Try.prog 48 #[.agg cs.toArray, .agg ds.toArray] w fun e w' => e = .returned (.bool (decide (x = y))) ∧ Below w.heap.size w w' := by
  obtain ⟨s, xs⟩ := x
  obtain ⟨t, ys⟩ := y
  obtain ⟨u, rfl, hs, hi⟩ := rA_open h
  obtain ⟨v, rfl, ht, hi'⟩ := rA_open h'
  simp only at hi hi'
  have hB : Below w.heap.size w ((w.alloc (.cells #[.string s, u] 43)).alloc (.cells #[.string t, v] 43)) := ((Below.refl _ _).alloc (Nat.le_refl _) _).alloc (by simp) _
  by_cases hst : s = t
  · subst hst
    have HE := Lib.hid (show decide ((s, xs) = (s, ys)) = decide (xs = ys) by simp)
    have hc := eq_I u v xs ys _ (rI.mono hi hB) (rI.mono hi' hB)
    obtain ⟨q, hq⟩ : ∃ q, q = decide (xs = ys) := ⟨_, rfl⟩
    rw [← hq] at hc HE
    have HC := Lib.hid hc
    have HB := Lib.hid hB
    clear hc hB hq h h' hi hi'
    simp only at hs ht
    cases q <;>
    · go_enter Try.func48, Try.ntmps48
      go_wp2_with (go_at_call 20; refine HC.out.mono ?_; rintro e w' ⟨rfl, ⟨m, rfl⟩⟩)
      go_ret
      exact ⟨ret_bool HE.out.symm, onD HB.out ⟨_, rfl⟩⟩
  · have HE := Lib.hid (show decide ((s, xs) = (t, ys)) = false by simp [hst])
    have hne := bytes_ne hst
    have HB := Lib.hid hB
    clear hB h h' hst hi hi'
    simp only at hs ht
    go_enter Try.func48, Try.ntmps48
    go_wp2_with fail
    go_ret
    exact ⟨ret_bool HE.out.symm, HB.out⟩

set_option maxHeartbeats 400000 in
theorem mark_A (us : List Value) (x : DAtom) (k : Int) (lo hi : Nat) (w : World) (h : Own oA lo hi w us x) (hh : hi ≤ w.heap.size) (k0 : 0 ≤ k) (k1 : k + cnt_A x ≤ 1000000000) :
    Calls Try.prog 49 #[.agg us.toArray, .int .i64 k] w fun e w' => e = .returned (.int .i64 (k + cnt_A x)) ∧ Own oA lo hi w' us (mk_A k x) ∧ Turn lo hi w w' := by
  obtain ⟨s, xs⟩ := x
  obtain ⟨v, rfl, hs, hi'⟩ := oA_open h
  simp only at hs hi'
  have hB : Below w.heap.size w (w.alloc (.cells #[.string s, v] 43)) := (Below.refl _ _).alloc (Nat.le_refl _) _
  unfold cnt_A at *
  simp only at k1
  have HC := Lib.hid (mark_I v xs k lo hi _ (hi'.below hB hh) (by simp; omega) k0 k1)
  have HB := Lib.hid hB
  clear hB hi' h
  go_enter Try.func49, Try.ntmps49
  go_wp2_with fail
  refine HC.out.mono ?_
  rintro e w' ⟨rfl, h4, h5⟩
  have HR := Lib.hid (show Own oA lo hi w' [.string s, v] (mk_A k (s, xs)) ∧ Turn lo hi w w' from ⟨oA_mk hs h4, (turn_below HB.out (Nat.le_refl _)).trans h5⟩)
  clear h4 h5
  go_wp2_with fail
  go_ret
  exact ⟨rfl, HR.out.1, HR.out.2⟩

end Go.Proofs.Ytnemkajkidgfjaa
