/- Texts joined for one claim: DegQ, LMaxDegree. -/
import Derived.Test.YtbkoddikfpkocaaQ1c91c03643
import Derived.Deep.RegionHeld3

/- Contracts: degree sequences of tables, and the greatest degree. -/
namespace Go.Proofs.Ytbkoddikfpkocaa
open Go.RowKit
set_option linter.unusedVariables false
set_option linter.unusedSimpArgs false
set_option synthInstance.maxSize 2000
set_option synthInstance.maxHeartbeats 400000

theorem degSeq_len (t : DT) (cs : List Int) : (degSeq t cs).length ≤ 8 := by
  unfold degSeq
  rw [downS_len]
  have h1 := grpV_facts t cs
  have h2 := grpN_facts t cs
  omega
theorem degSeq_impl (v : Value) (cs : List Value) (t : DT) (cols : List Int) (w : World) (ht : rT.rep w cs t) (h' : rI.rep w [v] cols) :
    Calls Try.prog 94 #[.agg cs.toArray, v] w fun e w' => ∃ b n c, e = .returned (.slice b n c) ∧ Own oI w.heap.size w'.heap.size w' [.slice b n c] (degSeq t cols) ∧ Below w.heap.size w w' := by
  obtain ⟨b, m, d, hv⟩ := rI_form h'
  simp at hv; subst hv
  have HG := Lib.hid (fun W (hW : Below w.heap.size w W) => groups_impl _ cs t cols W (rT.mono ht hW) (rI.mono h' hW))
  obtain ⟨ub, un, uc, rfl, hs, hi, g1⟩ := rT_open ht
  obtain ⟨l, hl⟩ : ∃ l, grpN t cols = l := ⟨_, rfl⟩
  have hl8 : l.length ≤ 8 := by rw [← hl]; have h1 := grpV_facts t cols; have h2 := grpN_facts t cols; omega
  have HD : Hid (degSeq t cols = (sortL l).reverse) := Lib.hid (by rw [← hl]; rfl)
  have HL := Lib.hid hl
  obtain ⟨s, ar, rows⟩ := t
  clear ht h' hs hi g1 hl
  have hb0 : Below w.heap.size w w := Below.refl _ _
  go_enter Try.func94, Try.ntmps94
  obtain ⟨w1, hw1⟩ : ∃ W, W = w.alloc (.cells #[.string s, .int .i64 ar, .slice ub un uc] 34) := ⟨_, rfl⟩
  have z1 : Below w.heap.size w w1 := by rw [hw1]; exact (Below.refl _ _).alloc (Nat.le_refl _) _
  have s1 : w1.heap.size = w.heap.size + 1 := by rw [hw1]; simp
  have hb1 := on hb0 z1
  have t_0 : w1.cell? ⟨w.heap.size, 0, none⟩ = some (.string s) := by rw [hw1]; exact box_cell (Below.refl _ _) rfl
  have t_1 : w1.cell? ⟨w.heap.size, 1, none⟩ = some (.int .i64 ar) := by rw [hw1]; exact box_cell (Below.refl _ _) rfl
  have t_2 : w1.cell? ⟨w.heap.size, 2, none⟩ = some (.slice ub un uc) := by rw [hw1]; exact box_cell (Below.refl _ _) rfl
  have raw1_t_0 := t_0
  have raw1_t_1 := t_1
  have raw1_t_2 := t_2
  rw [hw1] at raw1_t_0 raw1_t_1 raw1_t_2
  go_wp2_with fail
  rw [← hw1]
  clear hw1
  clear raw1_t_0 raw1_t_1 raw1_t_2
  refine (HG.out _ hb1).mono ?_
  rintro e w2 ⟨b1, n1, c1, b2, n2, c2, wm, rfl, o1, o2, hm1, hm2, z2⟩
  rw [HL.out] at o2
  clear o1
  have s2 := z2.size
  have hb2 := on hb1 z2
  replace t_0 := (z2.cell (p := ⟨w.heap.size, 0, none⟩) (by simp only []; omega)).trans t_0
  replace t_1 := (z2.cell (p := ⟨w.heap.size, 1, none⟩) (by simp only []; omega)).trans t_1
  replace t_2 := (z2.cell (p := ⟨w.heap.size, 2, none⟩) (by simp only []; omega)).trans t_2
  go_wp2_with fail
  refine (copyInts_any _ l _ (o2.rd reads_I) (by omega)).mono ?_
  rintro e w3 ⟨u, rfl, o3, z3⟩
  obtain ⟨b3, n3, c3, rfl⟩ := oI_form1 o3
  clear o2
  have s3 := z3.size
  have hb3 := on hb2 z3
  replace t_0 := (z3.cell (p := ⟨w.heap.size, 0, none⟩) (by simp only []; omega)).trans t_0
  replace t_1 := (z3.cell (p := ⟨w.heap.size, 1, none⟩) (by simp only []; omega)).trans t_1
  replace t_2 := (z3.cell (p := ⟨w.heap.size, 2, none⟩) (by simp only []; omega)).trans t_2
  go_wp2_with fail
  refine (sortI_any _ l _ _ _ o3 (by omega) (show w2.heap.size ≤ w3.heap.size by omega)).mono ?_
  rintro e w4 ⟨rfl, o4, z4⟩
  have hbx := (hb3).trans (z4.mono (by omega))
  have s4 := z4.size
  go_wp2_with fail
  refine (reverseI_any _ _ _ _ _ o4 (by rw [sortL_len]; omega) (show w2.heap.size ≤ w4.heap.size by omega)).mono ?_
  rintro e w5 ⟨rfl, o5, z5⟩
  have hby := hbx.trans (z5.mono (by omega))
  have s5 := z5.size
  have HO := Lib.hid (o5.mono (lo' := w.heap.size) (hi' := w5.heap.size) (by omega) (by omega))
  clear o5 o4 o3
  go_wp2_with fail
  go_ret
  exact ⟨_, _, _, rfl, by rw [HD.out]; exact HO.out, hby⟩

theorem degSeq_spec (v : Value) (cs : List Value) (t : DT) (cols : List Int) (w : World) (ht : rT.rep w cs t) (h' : rI.rep w [v] cols) :
    Calls Try.prog 30 #[.agg cs.toArray, v] w fun e w' => ∃ b n c, e = .returned (.slice b n c) ∧ Own oI w.heap.size w'.heap.size w' [.slice b n c] (degSeq t cols) ∧ Below w.heap.size w w' := by
  obtain ⟨b, m, d, hv⟩ := rI_form h'
  simp at hv; subst hv
  have HG := Lib.hid (fun W (hW : Below w.heap.size w W) => groups_spec _ cs t cols W (rT.mono ht hW) (rI.mono h' hW))
  obtain ⟨ub, un, uc, rfl, hs, hi, g1⟩ := rT_open ht
  obtain ⟨l, hl⟩ : ∃ l, grpN t cols = l := ⟨_, rfl⟩
  have hl8 : l.length ≤ 8 := by rw [← hl]; have h1 := grpV_facts t cols; have h2 := grpN_facts t cols; omega
  have HD : Hid (degSeq t cols = downS l) := Lib.hid (by rw [← hl]; rfl)
  have HL := Lib.hid hl
  obtain ⟨s, ar, rows⟩ := t
  clear ht h' hs hi g1 hl
  have hb0 : Below w.heap.size w w := Below.refl _ _
  go_enter Try.func30, Try.ntmps30
  obtain ⟨w1, hw1⟩ : ∃ W, W = w.alloc (.cells #[.string s, .int .i64 ar, .slice ub un uc] 34) := ⟨_, rfl⟩
  have z1 : Below w.heap.size w w1 := by rw [hw1]; exact (Below.refl _ _).alloc (Nat.le_refl _) _
  have s1 : w1.heap.size = w.heap.size + 1 := by rw [hw1]; simp
  have hb1 := on hb0 z1
  have t_0 : w1.cell? ⟨w.heap.size, 0, none⟩ = some (.string s) := by rw [hw1]; exact box_cell (Below.refl _ _) rfl
  have t_1 : w1.cell? ⟨w.heap.size, 1, none⟩ = some (.int .i64 ar) := by rw [hw1]; exact box_cell (Below.refl _ _) rfl
  have t_2 : w1.cell? ⟨w.heap.size, 2, none⟩ = some (.slice ub un uc) := by rw [hw1]; exact box_cell (Below.refl _ _) rfl
  have raw1_t_0 := t_0
  have raw1_t_1 := t_1
  have raw1_t_2 := t_2
  rw [hw1] at raw1_t_0 raw1_t_1 raw1_t_2
  go_wp2_with fail
  rw [← hw1]
  clear hw1
  clear raw1_t_0 raw1_t_1 raw1_t_2
  refine (HG.out _ hb1).mono ?_
  rintro e w2 ⟨b1, n1, c1, b2, n2, c2, rfl, o1, o2, z2⟩
  rw [HL.out] at o2
  clear o1
  have s2 := z2.size
  have hb2 := on hb1 z2
  replace t_0 := (z2.cell (p := ⟨w.heap.size, 0, none⟩) (by simp only []; omega)).trans t_0
  replace t_1 := (z2.cell (p := ⟨w.heap.size, 1, none⟩) (by simp only []; omega)).trans t_1
  replace t_2 := (z2.cell (p := ⟨w.heap.size, 2, none⟩) (by simp only []; omega)).trans t_2
  go_wp2_with fail
  refine (down_any _ l _ (o2.rd reads_I) (by omega)).mono ?_
  rintro e w3 ⟨b3, n3, c3, rfl, o3, z3⟩
  clear o2
  have s3 := z3.size
  have hb3 := on hb2 z3
  replace t_0 := (z3.cell (p := ⟨w.heap.size, 0, none⟩) (by simp only []; omega)).trans t_0
  replace t_1 := (z3.cell (p := ⟨w.heap.size, 1, none⟩) (by simp only []; omega)).trans t_1
  replace t_2 := (z3.cell (p := ⟨w.heap.size, 2, none⟩) (by simp only []; omega)).trans t_2
  have HO := Lib.hid (o3.mono (lo' := w.heap.size) (hi' := w3.heap.size) (by omega) (by omega))
  clear o3
  go_wp2_with fail
  go_ret
  exact ⟨_, _, _, rfl, by rw [HD.out]; exact HO.out, hb3⟩
theorem degSeq_impl' (v : Value) (cs : List Value) (t : DT) (cols : List Int) (w : World) (ht : rT.rep w cs t) (h' : rI.rep w [v] cols) :
    Calls Try.prog 94 #[.agg cs.toArray, v] w fun e w' => ∃ u, e = .returned u ∧ Own oI w.heap.size w'.heap.size w' [u] (degSeq t cols) ∧ Below w.heap.size w w' :=
  (degSeq_impl v cs t cols w ht h').mono fun e w' ⟨_, _, _, he, h1, h2⟩ => ⟨_, he, h1, h2⟩
theorem degSeq_spec' (v : Value) (cs : List Value) (t : DT) (cols : List Int) (w : World) (ht : rT.rep w cs t) (h' : rI.rep w [v] cols) :
    Calls Try.prog 30 #[.agg cs.toArray, v] w fun e w' => ∃ u, e = .returned u ∧ Own oI w.heap.size w'.heap.size w' [u] (degSeq t cols) ∧ Below w.heap.size w w' :=
  (degSeq_spec v cs t cols w ht h').mono fun e w' ⟨_, _, _, he, h1, h2⟩ => ⟨_, he, h1, h2⟩
def maxDeg (t : DT) (cs : List Int) : Int := headOr (degSeq t cs)

theorem maxDeg_impl (v : Value) (cs : List Value) (t : DT) (cols : List Int) (w : World) (ht : rT.rep w cs t) (h' : rI.rep w [v] cols) :
    Calls Try.prog 93 #[.agg cs.toArray, v] w fun e w' => e = .returned (.int .i64 (maxDeg t cols)) ∧ Below w.heap.size w w' := by
  obtain ⟨b, m, d, hv⟩ := rI_form h'
  simp at hv; subst hv
  have HG := Lib.hid (fun W (hW : Below w.heap.size w W) => degSeq_impl _ cs t cols W (rT.mono ht hW) (rI.mono h' hW))
  obtain ⟨ub, un, uc, rfl, hs, hi, g1⟩ := rT_open ht
  obtain ⟨l, hl⟩ : ∃ l, degSeq t cols = l := ⟨_, rfl⟩
  have hl8 : l.length ≤ 8 := by rw [← hl]; exact degSeq_len t cols
  have HD : Hid (maxDeg t cols = headOr l) := Lib.hid (by rw [← hl]; rfl)
  have HL := Lib.hid hl
  obtain ⟨s, ar, rows⟩ := t
  clear ht h' hs hi g1 hl
  have hb0 : Below w.heap.size w w := Below.refl _ _
  go_enter Try.func93, Try.ntmps93
  obtain ⟨w1, hw1⟩ : ∃ W, W = w.alloc (.cells #[.string s, .int .i64 ar, .slice ub un uc] 34) := ⟨_, rfl⟩
  have z1 : Below w.heap.size w w1 := by rw [hw1]; exact (Below.refl _ _).alloc (Nat.le_refl _) _
  have s1 : w1.heap.size = w.heap.size + 1 := by rw [hw1]; simp
  have hb1 := on hb0 z1
  have t_0 : w1.cell? ⟨w.heap.size, 0, none⟩ = some (.string s) := by rw [hw1]; exact box_cell (Below.refl _ _) rfl
  have t_1 : w1.cell? ⟨w.heap.size, 1, none⟩ = some (.int .i64 ar) := by rw [hw1]; exact box_cell (Below.refl _ _) rfl
  have t_2 : w1.cell? ⟨w.heap.size, 2, none⟩ = some (.slice ub un uc) := by rw [hw1]; exact box_cell (Below.refl _ _) rfl
  have raw1_t_0 := t_0
  have raw1_t_1 := t_1
  have raw1_t_2 := t_2
  rw [hw1] at raw1_t_0 raw1_t_1 raw1_t_2
  go_wp2_with fail
  rw [← hw1]
  clear hw1
  clear raw1_t_0 raw1_t_1 raw1_t_2
  refine (HG.out _ hb1).mono ?_
  rintro e w2 ⟨b2, n2, c2, rfl, o2, z2⟩
  rw [HL.out] at o2
  have s2 := z2.size
  have hb2 := on hb1 z2
  replace t_0 := (z2.cell (p := ⟨w.heap.size, 0, none⟩) (by simp only []; omega)).trans t_0
  replace t_1 := (z2.cell (p := ⟨w.heap.size, 1, none⟩) (by simp only []; omega)).trans t_1
  replace t_2 := (z2.cell (p := ⟨w.heap.size, 2, none⟩) (by simp only []; omega)).trans t_2
  have i2 := rI_ints (o2.rd reads_I)
  have hln := i2.len
  clear o2
  rcases Nat.eq_zero_or_pos n2 with h0 | h0
  · have hz : n2 = 0 := h0
    subst hz
    have HE : Hid (maxDeg (s, ar, rows) cols = 0) := Lib.hid (by rw [HD.out, List.eq_nil_of_length_eq_zero hln]; rfl)
    clear hln i2
    go_wp2_with fail
    go_ret
    exact ⟨ret_int HE.out.symm, hb2⟩
  · obtain ⟨b9, o9, x, rfl, hc, hx, hx1, hx2⟩ := i2.get h0
    have hc' : w2.cell? ⟨b9, o9, none⟩ = some (.int .i64 x) := by simpa using hc
    have HE : Hid (maxDeg (s, ar, rows) cols = x) := Lib.hid (by rw [HD.out, headOr_get]; exact hx.out)
    have hne : ((n2 : Int) == 0) = false := by rw [beq_eq_false_iff_ne]; omega
    clear hln i2 hc hx
    go_wp2_with fail
    go_ret
    exact ⟨ret_int HE.out.symm, hb2⟩

theorem maxDeg_spec (v : Value) (cs : List Value) (t : DT) (cols : List Int) (w : World) (ht : rT.rep w cs t) (h' : rI.rep w [v] cols) :
    Calls Try.prog 92 #[.agg cs.toArray, v] w fun e w' => e = .returned (.int .i64 (maxDeg t cols)) ∧ Below w.heap.size w w' := by
  obtain ⟨b, m, d, hv⟩ := rI_form h'
  simp at hv; subst hv
  have HG := Lib.hid (fun W (hW : Below w.heap.size w W) => degSeq_spec _ cs t cols W (rT.mono ht hW) (rI.mono h' hW))
  obtain ⟨ub, un, uc, rfl, hs, hi, g1⟩ := rT_open ht
  obtain ⟨l, hl⟩ : ∃ l, degSeq t cols = l := ⟨_, rfl⟩
  have hl8 : l.length ≤ 8 := by rw [← hl]; exact degSeq_len t cols
  have HD : Hid (maxDeg t cols = headOr l) := Lib.hid (by rw [← hl]; rfl)
  have HL := Lib.hid hl
  obtain ⟨s, ar, rows⟩ := t
  clear ht h' hs hi g1 hl
  have hb0 : Below w.heap.size w w := Below.refl _ _
  go_enter Try.func92, Try.ntmps92
  obtain ⟨w1, hw1⟩ : ∃ W, W = w.alloc (.cells #[.string s, .int .i64 ar, .slice ub un uc] 34) := ⟨_, rfl⟩
  have z1 : Below w.heap.size w w1 := by rw [hw1]; exact (Below.refl _ _).alloc (Nat.le_refl _) _
  have s1 : w1.heap.size = w.heap.size + 1 := by rw [hw1]; simp
  have hb1 := on hb0 z1
  have t_0 : w1.cell? ⟨w.heap.size, 0, none⟩ = some (.string s) := by rw [hw1]; exact box_cell (Below.refl _ _) rfl
  have t_1 : w1.cell? ⟨w.heap.size, 1, none⟩ = some (.int .i64 ar) := by rw [hw1]; exact box_cell (Below.refl _ _) rfl
  have t_2 : w1.cell? ⟨w.heap.size, 2, none⟩ = some (.slice ub un uc) := by rw [hw1]; exact box_cell (Below.refl _ _) rfl
  have raw1_t_0 := t_0
  have raw1_t_1 := t_1
  have raw1_t_2 := t_2
  rw [hw1] at raw1_t_0 raw1_t_1 raw1_t_2
  go_wp2_with fail
  rw [← hw1]
  clear hw1
  clear raw1_t_0 raw1_t_1 raw1_t_2
  refine (HG.out _ hb1).mono ?_
  rintro e w2 ⟨b2, n2, c2, rfl, o2, z2⟩
  rw [HL.out] at o2
  have s2 := z2.size
  have hb2 := on hb1 z2
  replace t_0 := (z2.cell (p := ⟨w.heap.size, 0, none⟩) (by simp only []; omega)).trans t_0
  replace t_1 := (z2.cell (p := ⟨w.heap.size, 1, none⟩) (by simp only []; omega)).trans t_1
  replace t_2 := (z2.cell (p := ⟨w.heap.size, 2, none⟩) (by simp only []; omega)).trans t_2
  have i2 := rI_ints (o2.rd reads_I)
  have hln := i2.len
  clear o2
  rcases Nat.eq_zero_or_pos n2 with h0 | h0
  · have hz : n2 = 0 := h0
    subst hz
    have HE : Hid (maxDeg (s, ar, rows) cols = 0) := Lib.hid (by rw [HD.out, List.eq_nil_of_length_eq_zero hln]; rfl)
    clear hln i2
    go_wp2_with fail
    go_ret
    exact ⟨ret_int HE.out.symm, hb2⟩
  · obtain ⟨b9, o9, x, rfl, hc, hx, hx1, hx2⟩ := i2.get h0
    have hc' : w2.cell? ⟨b9, o9, none⟩ = some (.int .i64 x) := by simpa using hc
    have HE : Hid (maxDeg (s, ar, rows) cols = x) := Lib.hid (by rw [HD.out, headOr_get]; exact hx.out)
    have hne : ((n2 : Int) == 0) = false := by rw [beq_eq_false_iff_ne]; omega
    clear hln i2 hc hx
    go_wp2_with fail
    go_ret
    exact ⟨ret_int HE.out.symm, hb2⟩

end Go.Proofs.Ytbkoddikfpkocaa

/- The walk of the law MaxDegree. Written by a program. -/
namespace Go.Proofs.Ytbkoddikfpkocaa
open Go.RowKit
set_option linter.unusedVariables false
set_option linter.unusedSimpArgs false
set_option synthInstance.maxSize 2000
set_option synthInstance.maxHeartbeats 400000

set_option maxHeartbeats 4000000 in
set_option maxRecDepth 100000 in
theorem walk_FnExactMaxDegree (v0 : Value) (v1 : Value) (w : World) (h0 : kT_in w v0) (h1 : kI_in w v1) :
    Calls Try.prog 13 #[v0, v1] w fun e w' => e = .returned (.bool true) ∧ Below w.heap.size w w' := by
  obtain ⟨c0, x0, rfl, h0⟩ := h0
  obtain ⟨bu0, nu0, cu0, rfl⟩ := rT_form h0
  obtain ⟨a1, n1, p1, x1, rfl, hn1, h1⟩ := h1
  have hb0 : Below w.heap.size w w := Below.refl _ _
  rcases Nat.lt_or_ge 1048576 n1 with g1 | g1
  · have hm1 := hn1.2
    go_enter Try.func13, Try.ntmps13
    go_wp2
    go_ret
    exact ⟨rfl, (Below.refl _ _).alloc (Nat.le_refl _) _⟩
  have hbk1 : bulk_I x1 ≤ 1048576 := by have h9 := hn1.1; unfold bulk_I; omega
  go_enter Try.func13, Try.ntmps13
  obtain ⟨w1, hw1⟩ : ∃ W, W = w.alloc (.cells #[.string x0.1, .int .i64 x0.2.1, .slice bu0 nu0 cu0] 67) := ⟨_, rfl⟩
  have z1 : Below w.heap.size w w1 := by rw [hw1]; exact (Below.refl _ _).alloc (Nat.le_refl _) _
  have s1 : w1.heap.size = w.heap.size + 1 := by rw [hw1]; simp
  have hb1 := on hb0 z1
  have bp0_0 : w1.cell? ⟨w.heap.size, 0, none⟩ = some (.string x0.1) := by rw [hw1]; exact box_cell (Below.refl _ _) rfl
  have bp0_1 : w1.cell? ⟨w.heap.size, 1, none⟩ = some (.int .i64 x0.2.1) := by rw [hw1]; exact box_cell (Below.refl _ _) rfl
  have bp0_2 : w1.cell? ⟨w.heap.size, 2, none⟩ = some (.slice bu0 nu0 cu0) := by rw [hw1]; exact box_cell (Below.refl _ _) rfl
  go_wp2_with fail
  rw [← hw1]
  clear hw1
  refine (sz_T _ x0 (1048576) _ (rT.mono h0 hb1) (by omega) (by omega)).mono ?_
  rintro e w2 ⟨rfl, z2⟩
  have s2 := z2.size
  have hb2 := on hb1 z2
  replace bp0_0 := (z2.cell (p := ⟨w.heap.size, 0, none⟩) (by simp only []; omega)).trans bp0_0
  replace bp0_1 := (z2.cell (p := ⟨w.heap.size, 1, none⟩) (by simp only []; omega)).trans bp0_1
  replace bp0_2 := (z2.cell (p := ⟨w.heap.size, 2, none⟩) (by simp only []; omega)).trans bp0_2
  obtain ⟨q0, hq0⟩ : ∃ q, q = szR (1048576) (bulk_T x0) := ⟨_, rfl⟩
  rw [← hq0]
  have hc0 := szR_cases (1048576) (bulk_T x0)
  rw [← hq0] at hc0
  clear hq0
  rcases hc0 with ⟨rfl, _⟩ | ⟨hq0, hbk0⟩
  · go_wp2_with fail
    go_ret
    exact ⟨rfl, hb2⟩
  have hlo0 : 0 ≤ q0 ∧ q0 ≤ 1048576 := by omega
  have hbl0 : bulk_T x0 ≤ 1048576 := by omega
  obtain ⟨hlo0, hlp0⟩ := hlo0
  have HQ0 := Lib.hid hq0
  clear hq0 hbk0
  go_wp2_with fail
  refine (to_T _ _ _ (rT.mono h0 hb2) (by omega)).mono ?_
  rintro e w3 ⟨ct0, rfl, t0, z3⟩
  have s3 := z3.size
  have hb3 := on hb2 z3
  replace bp0_0 := (z3.cell (p := ⟨w.heap.size, 0, none⟩) (by simp only []; omega)).trans bp0_0
  replace bp0_1 := (z3.cell (p := ⟨w.heap.size, 1, none⟩) (by simp only []; omega)).trans bp0_1
  replace bp0_2 := (z3.cell (p := ⟨w.heap.size, 2, none⟩) (by simp only []; omega)).trans bp0_2
  obtain ⟨but0, nut0, cut0, rfl⟩ := oT_form t0
  go_wp2_with fail
  refine (to_I _ _ _ (rI.mono h1 hb3) (by omega)).mono ?_
  rintro e w4 ⟨ct1, rfl, t1, z4⟩
  have s4 := z4.size
  have hb4 := on hb3 z4
  replace t0 := t0.below z4 (by omega)
  replace bp0_0 := (z4.cell (p := ⟨w.heap.size, 0, none⟩) (by simp only []; omega)).trans bp0_0
  replace bp0_1 := (z4.cell (p := ⟨w.heap.size, 1, none⟩) (by simp only []; omega)).trans bp0_1
  replace bp0_2 := (z4.cell (p := ⟨w.heap.size, 2, none⟩) (by simp only []; omega)).trans bp0_2
  go_wp2_with fail
  refine (maxDeg_spec _ _ x0 x1 _ (t0.rd reads_T) (t1.rd reads_I)).mono ?_
  rintro e w5 ⟨rfl, z5⟩
  have s5 := z5.size
  have hb5 := on hb4 z5
  replace t0 := t0.below z5 (by omega)
  replace t1 := t1.below z5 (by omega)
  replace bp0_0 := (z5.cell (p := ⟨w.heap.size, 0, none⟩) (by simp only []; omega)).trans bp0_0
  replace bp0_1 := (z5.cell (p := ⟨w.heap.size, 1, none⟩) (by simp only []; omega)).trans bp0_1
  replace bp0_2 := (z5.cell (p := ⟨w.heap.size, 2, none⟩) (by simp only []; omega)).trans bp0_2
  clear t0
  clear t1
  go_wp2_with fail
  refine (to_T _ _ _ (rT.mono h0 hb5) (by omega)).mono ?_
  rintro e w6 ⟨cy0, rfl, y0, z6⟩
  have s6 := z6.size
  have hb6 := on hb5 z6
  replace bp0_0 := (z6.cell (p := ⟨w.heap.size, 0, none⟩) (by simp only []; omega)).trans bp0_0
  replace bp0_1 := (z6.cell (p := ⟨w.heap.size, 1, none⟩) (by simp only []; omega)).trans bp0_1
  replace bp0_2 := (z6.cell (p := ⟨w.heap.size, 2, none⟩) (by simp only []; omega)).trans bp0_2
  obtain ⟨buy0, nuy0, cuy0, rfl⟩ := oT_form y0
  obtain ⟨w7, hw7⟩ : ∃ W, W = w6.alloc (.cells #[.string x0.1, .int .i64 x0.2.1, .slice buy0 nuy0 cuy0] 34) := ⟨_, rfl⟩
  have z7 : Below w6.heap.size w6 w7 := by rw [hw7]; exact (Below.refl _ _).alloc (Nat.le_refl _) _
  have s7 : w7.heap.size = w6.heap.size + 1 := by rw [hw7]; simp
  have hb7 := on hb6 z7
  replace y0 := y0.below z7 (by omega)
  replace bp0_0 := (z7.cell (p := ⟨w.heap.size, 0, none⟩) (by simp only []; omega)).trans bp0_0
  replace bp0_1 := (z7.cell (p := ⟨w.heap.size, 1, none⟩) (by simp only []; omega)).trans bp0_1
  replace bp0_2 := (z7.cell (p := ⟨w.heap.size, 2, none⟩) (by simp only []; omega)).trans bp0_2
  have by0_0 : w7.cell? ⟨w6.heap.size, 0, none⟩ = some (.string x0.1) := by rw [hw7]; exact box_cell (Below.refl _ _) rfl
  have by0_1 : w7.cell? ⟨w6.heap.size, 1, none⟩ = some (.int .i64 x0.2.1) := by rw [hw7]; exact box_cell (Below.refl _ _) rfl
  have by0_2 : w7.cell? ⟨w6.heap.size, 2, none⟩ = some (.slice buy0 nuy0 cuy0) := by rw [hw7]; exact box_cell (Below.refl _ _) rfl
  have raw_bp0_0 := bp0_0
  rw [hw7] at raw_bp0_0
  have raw_bp0_1 := bp0_1
  rw [hw7] at raw_bp0_1
  have raw_bp0_2 := bp0_2
  rw [hw7] at raw_bp0_2
  have raw_by0_0 := by0_0
  rw [hw7] at raw_by0_0
  have raw_by0_1 := by0_1
  rw [hw7] at raw_by0_1
  have raw_by0_2 := by0_2
  rw [hw7] at raw_by0_2
  go_wp2_with fail
  rw [← hw7]
  clear hw7
  clear raw_bp0_0 raw_bp0_1 raw_bp0_2 raw_by0_0 raw_by0_1 raw_by0_2
  refine (to_I _ _ _ (rI.mono h1 hb7) (by omega)).mono ?_
  rintro e w8 ⟨cy1, rfl, y1, z8⟩
  have s8 := z8.size
  have hb8 := on hb7 z8
  replace y0 := y0.below z8 (by omega)
  replace bp0_0 := (z8.cell (p := ⟨w.heap.size, 0, none⟩) (by simp only []; omega)).trans bp0_0
  replace bp0_1 := (z8.cell (p := ⟨w.heap.size, 1, none⟩) (by simp only []; omega)).trans bp0_1
  replace bp0_2 := (z8.cell (p := ⟨w.heap.size, 2, none⟩) (by simp only []; omega)).trans bp0_2
  replace by0_0 := (z8.cell (p := ⟨w6.heap.size, 0, none⟩) (by simp only []; omega)).trans by0_0
  replace by0_1 := (z8.cell (p := ⟨w6.heap.size, 1, none⟩) (by simp only []; omega)).trans by0_1
  replace by0_2 := (z8.cell (p := ⟨w6.heap.size, 2, none⟩) (by simp only []; omega)).trans by0_2
  go_wp2_with fail
  refine (maxDeg_impl _ _ x0 x1 _ (y0.rd reads_T) (y1.rd reads_I)).mono ?_
  rintro e w9 ⟨rfl, z9⟩
  have s9 := z9.size
  have hb9 := on hb8 z9
  replace y0 := y0.below z9 (by omega)
  replace y1 := y1.below z9 (by omega)
  replace bp0_0 := (z9.cell (p := ⟨w.heap.size, 0, none⟩) (by simp only []; omega)).trans bp0_0
  replace bp0_1 := (z9.cell (p := ⟨w.heap.size, 1, none⟩) (by simp only []; omega)).trans bp0_1
  replace bp0_2 := (z9.cell (p := ⟨w.heap.size, 2, none⟩) (by simp only []; omega)).trans bp0_2
  replace by0_0 := (z9.cell (p := ⟨w6.heap.size, 0, none⟩) (by simp only []; omega)).trans by0_0
  replace by0_1 := (z9.cell (p := ⟨w6.heap.size, 1, none⟩) (by simp only []; omega)).trans by0_1
  replace by0_2 := (z9.cell (p := ⟨w6.heap.size, 2, none⟩) (by simp only []; omega)).trans by0_2
  go_wp2_with fail
  go_region_held3 (fun W => W.cell? ⟨w6.heap.size, 0, none⟩ = some (.string x0.1) ∧ W.cell? ⟨w6.heap.size, 1, none⟩ = some (.int .i64 x0.2.1) ∧ W.cell? ⟨w6.heap.size, 2, none⟩ = some (.slice buy0 nuy0 cuy0) ∧ W.cell? ⟨w.heap.size, 0, none⟩ = some (.string x0.1) ∧ W.cell? ⟨w.heap.size, 1, none⟩ = some (.int .i64 x0.2.1) ∧ W.cell? ⟨w.heap.size, 2, none⟩ = some (.slice bu0 nu0 cu0)) (first | exact ⟨by0_0, by0_1, by0_2, bp0_0, bp0_1, bp0_2⟩ | assumption) (first | (go_at_call 62; refine (to_T _ x0 _ (rT.mono h0 hb9.drew) (by omega)).mono ?_; rintro e w10 ⟨du0, rfl, u0, z10⟩; replace z10 : Below w9.heap.size w9 w10 := (Below.refl _ _).drew.trans z10; have hS0 := (⟨(z10.cell (p := ⟨w6.heap.size, 0, none⟩) (by simp only []; omega)).trans by0_0, (z10.cell (p := ⟨w6.heap.size, 1, none⟩) (by simp only []; omega)).trans by0_1, (z10.cell (p := ⟨w6.heap.size, 2, none⟩) (by simp only []; omega)).trans by0_2, (z10.cell (p := ⟨w.heap.size, 0, none⟩) (by simp only []; omega)).trans bp0_0, (z10.cell (p := ⟨w.heap.size, 1, none⟩) (by simp only []; omega)).trans bp0_1, (z10.cell (p := ⟨w.heap.size, 2, none⟩) (by simp only []; omega)).trans bp0_2⟩ : (fun W => W.cell? ⟨w6.heap.size, 0, none⟩ = some (.string x0.1) ∧ W.cell? ⟨w6.heap.size, 1, none⟩ = some (.int .i64 x0.2.1) ∧ W.cell? ⟨w6.heap.size, 2, none⟩ = some (.slice buy0 nuy0 cuy0) ∧ W.cell? ⟨w.heap.size, 0, none⟩ = some (.string x0.1) ∧ W.cell? ⟨w.heap.size, 1, none⟩ = some (.int .i64 x0.2.1) ∧ W.cell? ⟨w.heap.size, 2, none⟩ = some (.slice bu0 nu0 cu0)) w10); obtain ⟨buu0, nuu0, cuu0, rfl⟩ := oT_form u0; have y0' := y0.below z10 (by omega)) | (go_at_call 65; refine (eq_T _ _ x0 x0 _ (y0'.rd reads_T) (u0.rd reads_T)).mono ?_; rintro e w11 ⟨rfl, z11⟩; have s10 := z10.size; have hT0 := (⟨(z11.cell (p := ⟨w6.heap.size, 0, none⟩) (by simp only []; omega)).trans hS0.1, (z11.cell (p := ⟨w6.heap.size, 1, none⟩) (by simp only []; omega)).trans hS0.2.1, (z11.cell (p := ⟨w6.heap.size, 2, none⟩) (by simp only []; omega)).trans hS0.2.2.1, (z11.cell (p := ⟨w.heap.size, 0, none⟩) (by simp only []; omega)).trans hS0.2.2.2.1, (z11.cell (p := ⟨w.heap.size, 1, none⟩) (by simp only []; omega)).trans hS0.2.2.2.2.1, (z11.cell (p := ⟨w.heap.size, 2, none⟩) (by simp only []; omega)).trans hS0.2.2.2.2.2⟩ : (fun W => W.cell? ⟨w6.heap.size, 0, none⟩ = some (.string x0.1) ∧ W.cell? ⟨w6.heap.size, 1, none⟩ = some (.int .i64 x0.2.1) ∧ W.cell? ⟨w6.heap.size, 2, none⟩ = some (.slice buy0 nuy0 cuy0) ∧ W.cell? ⟨w.heap.size, 0, none⟩ = some (.string x0.1) ∧ W.cell? ⟨w.heap.size, 1, none⟩ = some (.int .i64 x0.2.1) ∧ W.cell? ⟨w.heap.size, 2, none⟩ = some (.slice bu0 nu0 cu0)) w11)))
  replace z10 : Below w9.heap.size w9 w10 := z10
  clear u0 y0' hS0 hT0
  have t10 := z10.size
  have hb10 := on hb9 z10
  replace y0 := y0.below z10 (by omega)
  replace y1 := y1.below z10 (by omega)
  replace bp0_0 := (z10.cell (p := ⟨w.heap.size, 0, none⟩) (by simp only []; omega)).trans bp0_0
  replace bp0_1 := (z10.cell (p := ⟨w.heap.size, 1, none⟩) (by simp only []; omega)).trans bp0_1
  replace bp0_2 := (z10.cell (p := ⟨w.heap.size, 2, none⟩) (by simp only []; omega)).trans bp0_2
  replace by0_0 := (z10.cell (p := ⟨w6.heap.size, 0, none⟩) (by simp only []; omega)).trans by0_0
  replace by0_1 := (z10.cell (p := ⟨w6.heap.size, 1, none⟩) (by simp only []; omega)).trans by0_1
  replace by0_2 := (z10.cell (p := ⟨w6.heap.size, 2, none⟩) (by simp only []; omega)).trans by0_2
  have t11 := z11.size
  have hb11 := on hb10 z11
  replace y0 := y0.below z11 (by omega)
  replace y1 := y1.below z11 (by omega)
  replace bp0_0 := (z11.cell (p := ⟨w.heap.size, 0, none⟩) (by simp only []; omega)).trans bp0_0
  replace bp0_1 := (z11.cell (p := ⟨w.heap.size, 1, none⟩) (by simp only []; omega)).trans bp0_1
  replace bp0_2 := (z11.cell (p := ⟨w.heap.size, 2, none⟩) (by simp only []; omega)).trans bp0_2
  replace by0_0 := (z11.cell (p := ⟨w6.heap.size, 0, none⟩) (by simp only []; omega)).trans by0_0
  replace by0_1 := (z11.cell (p := ⟨w6.heap.size, 1, none⟩) (by simp only []; omega)).trans by0_1
  replace by0_2 := (z11.cell (p := ⟨w6.heap.size, 2, none⟩) (by simp only []; omega)).trans by0_2
  go_wp2_with fail
  refine (to_I _ _ _ (rI.mono h1 hb11) (by omega)).mono ?_
  rintro e w12 ⟨cu1, rfl, u1, z12⟩
  have s12 := z12.size
  have hb12 := on hb11 z12
  replace y0 := y0.below z12 (by omega)
  replace y1 := y1.below z12 (by omega)
  replace bp0_0 := (z12.cell (p := ⟨w.heap.size, 0, none⟩) (by simp only []; omega)).trans bp0_0
  replace bp0_1 := (z12.cell (p := ⟨w.heap.size, 1, none⟩) (by simp only []; omega)).trans bp0_1
  replace bp0_2 := (z12.cell (p := ⟨w.heap.size, 2, none⟩) (by simp only []; omega)).trans bp0_2
  replace by0_0 := (z12.cell (p := ⟨w6.heap.size, 0, none⟩) (by simp only []; omega)).trans by0_0
  replace by0_1 := (z12.cell (p := ⟨w6.heap.size, 1, none⟩) (by simp only []; omega)).trans by0_1
  replace by0_2 := (z12.cell (p := ⟨w6.heap.size, 2, none⟩) (by simp only []; omega)).trans by0_2
  go_wp2_with fail
  refine (eq_I _ _ _ _ _ (y1.rd reads_I) (u1.rd reads_I)).mono ?_
  rintro e w13 ⟨rfl, z13⟩
  replace z13 : Below w12.heap.size w12 w13 := z13.below _
  have s13 := z13.size
  have hb13 := on hb12 z13
  replace y0 := y0.below z13 (by omega)
  replace y1 := y1.below z13 (by omega)
  replace u1 := u1.below z13 (by omega)
  replace bp0_0 := (z13.cell (p := ⟨w.heap.size, 0, none⟩) (by simp only []; omega)).trans bp0_0
  replace bp0_1 := (z13.cell (p := ⟨w.heap.size, 1, none⟩) (by simp only []; omega)).trans bp0_1
  replace bp0_2 := (z13.cell (p := ⟨w.heap.size, 2, none⟩) (by simp only []; omega)).trans bp0_2
  replace by0_0 := (z13.cell (p := ⟨w6.heap.size, 0, none⟩) (by simp only []; omega)).trans by0_0
  replace by0_1 := (z13.cell (p := ⟨w6.heap.size, 1, none⟩) (by simp only []; omega)).trans by0_1
  replace by0_2 := (z13.cell (p := ⟨w6.heap.size, 2, none⟩) (by simp only []; omega)).trans by0_2
  clear u1
  go_wp2_with fail
  go_ret
  exact ⟨rfl, hb13⟩

end Go.Proofs.Ytbkoddikfpkocaa
