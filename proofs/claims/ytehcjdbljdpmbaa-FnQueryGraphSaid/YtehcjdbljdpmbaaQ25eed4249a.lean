/- Texts joined for one claim: DegQ, Draw6. -/
import Derived.Test.YtehcjdbljdpmbaaQb0e2c525e3
import Derived.Test.YtehcjdbljdpmbaaQ0f3a443e86
import Derived.Test.YtehcjdbljdpmbaaQ08c6743e93
import Derived.Test.YtehcjdbljdpmbaaQ74c2c0df2e

/- Contracts: degree sequences of tables, and the greatest degree. -/
namespace Go.Proofs.Ytehcjdbljdpmbaa
open Go.RowKit
set_option linter.unusedVariables false
set_option linter.unusedSimpArgs false
set_option synthInstance.maxSize 2000
set_option synthInstance.maxHeartbeats 400000

theorem degSeq_len (t : DT) (cs : List Int) : (degSeq t cs).length ≤ 8 := by
  unfold degSeq
  rw [downS_len]
  have h1 := grpV_facts t cs
  have h2 := grpN_facts t cs
  omega
theorem degSeq_impl (v : Value) (cs : List Value) (t : DT) (cols : List Int) (w : World) (ht : rT.rep w cs t) (h' : rI.rep w [v] cols) :
    Calls Try.prog 41 #[.agg cs.toArray, v] w fun e w' => ∃ b n c, e = .returned (.slice b n c) ∧ Own oI w.heap.size w'.heap.size w' [.slice b n c] (degSeq t cols) ∧ Below w.heap.size w w' := by
  obtain ⟨b, m, d, hv⟩ := rI_form h'
  simp at hv; subst hv
  have HG := Lib.hid (fun W (hW : Below w.heap.size w W) => groups_impl _ cs t cols W (rT.mono ht hW) (rI.mono h' hW))
  obtain ⟨ub, un, uc, rfl, hs, hi, g1⟩ := rT_open ht
  obtain ⟨l, hl⟩ : ∃ l, grpN t cols = l := ⟨_, rfl⟩
  have hl8 : l.length ≤ 8 := by rw [← hl]; have h1 := grpV_facts t cols; have h2 := grpN_facts t cols; omega
  have HD : Hid (degSeq t cols = (sortL l).reverse) := Lib.hid (by rw [← hl]; rfl)
  have HL := Lib.hid hl
  obtain ⟨s, ar, rows⟩ := t
  clear ht h' hs hi g1 hl
  have hb0 : Below w.heap.size w w := Below.refl _ _
  go_enter Try.func41, Try.ntmps41
  obtain ⟨w1, hw1⟩ : ∃ W, W = w.alloc (.cells #[.string s, .int .i64 ar, .slice ub un uc] 34) := ⟨_, rfl⟩
  have z1 : Below w.heap.size w w1 := by rw [hw1]; exact (Below.refl _ _).alloc (Nat.le_refl _) _
  have s1 : w1.heap.size = w.heap.size + 1 := by rw [hw1]; simp
  have hb1 := on hb0 z1
  have t_0 : w1.cell? ⟨w.heap.size, 0, none⟩ = some (.string s) := by rw [hw1]; exact box_cell (Below.refl _ _) rfl
  have t_1 : w1.cell? ⟨w.heap.size, 1, none⟩ = some (.int .i64 ar) := by rw [hw1]; exact box_cell (Below.refl _ _) rfl
  have t_2 : w1.cell? ⟨w.heap.size, 2, none⟩ = some (.slice ub un uc) := by rw [hw1]; exact box_cell (Below.refl _ _) rfl
  have raw1_t_0 := t_0
  have raw1_t_1 := t_1
  have raw1_t_2 := t_2
  rw [hw1] at raw1_t_0 raw1_t_1 raw1_t_2
  go_wp2_with fail
  rw [← hw1]
  clear hw1
  clear raw1_t_0 raw1_t_1 raw1_t_2
  refine (HG.out _ hb1).mono ?_
  rintro e w2 ⟨b1, n1, c1, b2, n2, c2, wm, rfl, o1, o2, hm1, hm2, z2⟩
  rw [HL.out] at o2
  clear o1
  have s2 := z2.size
  have hb2 := on hb1 z2
  replace t_0 := (z2.cell (p := ⟨w.heap.size, 0, none⟩) (by simp only []; omega)).trans t_0
  replace t_1 := (z2.cell (p := ⟨w.heap.size, 1, none⟩) (by simp only []; omega)).trans t_1
  replace t_2 := (z2.cell (p := ⟨w.heap.size, 2, none⟩) (by simp only []; omega)).trans t_2
  go_wp2_with fail
  refine (copyInts_any _ l _ (o2.rd reads_I) (by omega)).mono ?_
  rintro e w3 ⟨u, rfl, o3, z3⟩
  obtain ⟨b3, n3, c3, rfl⟩ := oI_form1 o3
  clear o2
  have s3 := z3.size
  have hb3 := on hb2 z3
  replace t_0 := (z3.cell (p := ⟨w.heap.size, 0, none⟩) (by simp only []; omega)).trans t_0
  replace t_1 := (z3.cell (p := ⟨w.heap.size, 1, none⟩) (by simp only []; omega)).trans t_1
  replace t_2 := (z3.cell (p := ⟨w.heap.size, 2, none⟩) (by simp only []; omega)).trans t_2
  go_wp2_with fail
  refine (sortI_any _ l _ _ _ o3 (by omega) (show w2.heap.size ≤ w3.heap.size by omega)).mono ?_
  rintro e w4 ⟨rfl, o4, z4⟩
  have hbx := (hb3).trans (z4.mono (by omega))
  have s4 := z4.size
  go_wp2_with fail
  refine (reverseI_any _ _ _ _ _ o4 (by rw [sortL_len]; omega) (show w2.heap.size ≤ w4.heap.size by omega)).mono ?_
  rintro e w5 ⟨rfl, o5, z5⟩
  have hby := hbx.trans (z5.mono (by omega))
  have s5 := z5.size
  have HO := Lib.hid (o5.mono (lo' := w.heap.size) (hi' := w5.heap.size) (by omega) (by omega))
  clear o5 o4 o3
  go_wp2_with fail
  go_ret
  exact ⟨_, _, _, rfl, by rw [HD.out]; exact HO.out, hby⟩

theorem degSeq_spec (v : Value) (cs : List Value) (t : DT) (cols : List Int) (w : World) (ht : rT.rep w cs t) (h' : rI.rep w [v] cols) :
    Calls Try.prog 21 #[.agg cs.toArray, v] w fun e w' => ∃ b n c, e = .returned (.slice b n c) ∧ Own oI w.heap.size w'.heap.size w' [.slice b n c] (degSeq t cols) ∧ Below w.heap.size w w' := by
  obtain ⟨b, m, d, hv⟩ := rI_form h'
  simp at hv; subst hv
  have HG := Lib.hid (fun W (hW : Below w.heap.size w W) => groups_spec _ cs t cols W (rT.mono ht hW) (rI.mono h' hW))
  obtain ⟨ub, un, uc, rfl, hs, hi, g1⟩ := rT_open ht
  obtain ⟨l, hl⟩ : ∃ l, grpN t cols = l := ⟨_, rfl⟩
  have hl8 : l.length ≤ 8 := by rw [← hl]; have h1 := grpV_facts t cols; have h2 := grpN_facts t cols; omega
  have HD : Hid (degSeq t cols = downS l) := Lib.hid (by rw [← hl]; rfl)
  have HL := Lib.hid hl
  obtain ⟨s, ar, rows⟩ := t
  clear ht h' hs hi g1 hl
  have hb0 : Below w.heap.size w w := Below.refl _ _
  go_enter Try.func21, Try.ntmps21
  obtain ⟨w1, hw1⟩ : ∃ W, W = w.alloc (.cells #[.string s, .int .i64 ar, .slice ub un uc] 34) := ⟨_, rfl⟩
  have z1 : Below w.heap.size w w1 := by rw [hw1]; exact (Below.refl _ _).alloc (Nat.le_refl _) _
  have s1 : w1.heap.size = w.heap.size + 1 := by rw [hw1]; simp
  have hb1 := on hb0 z1
  have t_0 : w1.cell? ⟨w.heap.size, 0, none⟩ = some (.string s) := by rw [hw1]; exact box_cell (Below.refl _ _) rfl
  have t_1 : w1.cell? ⟨w.heap.size, 1, none⟩ = some (.int .i64 ar) := by rw [hw1]; exact box_cell (Below.refl _ _) rfl
  have t_2 : w1.cell? ⟨w.heap.size, 2, none⟩ = some (.slice ub un uc) := by rw [hw1]; exact box_cell (Below.refl _ _) rfl
  have raw1_t_0 := t_0
  have raw1_t_1 := t_1
  have raw1_t_2 := t_2
  rw [hw1] at raw1_t_0 raw1_t_1 raw1_t_2
  go_wp2_with fail
  rw [← hw1]
  clear hw1
  clear raw1_t_0 raw1_t_1 raw1_t_2
  refine (HG.out _ hb1).mono ?_
  rintro e w2 ⟨b1, n1, c1, b2, n2, c2, rfl, o1, o2, z2⟩
  rw [HL.out] at o2
  clear o1
  have s2 := z2.size
  have hb2 := on hb1 z2
  replace t_0 := (z2.cell (p := ⟨w.heap.size, 0, none⟩) (by simp only []; omega)).trans t_0
  replace t_1 := (z2.cell (p := ⟨w.heap.size, 1, none⟩) (by simp only []; omega)).trans t_1
  replace t_2 := (z2.cell (p := ⟨w.heap.size, 2, none⟩) (by simp only []; omega)).trans t_2
  go_wp2_with fail
  refine (down_any _ l _ (o2.rd reads_I) (by omega)).mono ?_
  rintro e w3 ⟨b3, n3, c3, rfl, o3, z3⟩
  clear o2
  have s3 := z3.size
  have hb3 := on hb2 z3
  replace t_0 := (z3.cell (p := ⟨w.heap.size, 0, none⟩) (by simp only []; omega)).trans t_0
  replace t_1 := (z3.cell (p := ⟨w.heap.size, 1, none⟩) (by simp only []; omega)).trans t_1
  replace t_2 := (z3.cell (p := ⟨w.heap.size, 2, none⟩) (by simp only []; omega)).trans t_2
  have HO := Lib.hid (o3.mono (lo' := w.heap.size) (hi' := w3.heap.size) (by omega) (by omega))
  clear o3
  go_wp2_with fail
  go_ret
  exact ⟨_, _, _, rfl, by rw [HD.out]; exact HO.out, hb3⟩
theorem degSeq_impl' (v : Value) (cs : List Value) (t : DT) (cols : List Int) (w : World) (ht : rT.rep w cs t) (h' : rI.rep w [v] cols) :
    Calls Try.prog 41 #[.agg cs.toArray, v] w fun e w' => ∃ u, e = .returned u ∧ Own oI w.heap.size w'.heap.size w' [u] (degSeq t cols) ∧ Below w.heap.size w w' :=
  (degSeq_impl v cs t cols w ht h').mono fun e w' ⟨_, _, _, he, h1, h2⟩ => ⟨_, he, h1, h2⟩
theorem degSeq_spec' (v : Value) (cs : List Value) (t : DT) (cols : List Int) (w : World) (ht : rT.rep w cs t) (h' : rI.rep w [v] cols) :
    Calls Try.prog 21 #[.agg cs.toArray, v] w fun e w' => ∃ u, e = .returned u ∧ Own oI w.heap.size w'.heap.size w' [u] (degSeq t cols) ∧ Below w.heap.size w w' :=
  (degSeq_spec v cs t cols w ht h').mono fun e w' ⟨_, _, _, he, h1, h2⟩ => ⟨_, he, h1, h2⟩
def maxDeg (t : DT) (cs : List Int) : Int := headOr (degSeq t cs)

theorem maxDeg_impl (v : Value) (cs : List Value) (t : DT) (cols : List Int) (w : World) (ht : rT.rep w cs t) (h' : rI.rep w [v] cols) :
    Calls Try.prog 44 #[.agg cs.toArray, v] w fun e w' => e = .returned (.int .i64 (maxDeg t cols)) ∧ Below w.heap.size w w' := by
  obtain ⟨b, m, d, hv⟩ := rI_form h'
  simp at hv; subst hv
  have HG := Lib.hid (fun W (hW : Below w.heap.size w W) => degSeq_impl _ cs t cols W (rT.mono ht hW) (rI.mono h' hW))
  obtain ⟨ub, un, uc, rfl, hs, hi, g1⟩ := rT_open ht
  obtain ⟨l, hl⟩ : ∃ l, degSeq t cols = l := ⟨_, rfl⟩
  have hl8 : l.length ≤ 8 := by rw [← hl]; exact degSeq_len t cols
  have HD : Hid (maxDeg t cols = headOr l) := Lib.hid (by rw [← hl]; rfl)
  have HL := Lib.hid hl
  obtain ⟨s, ar, rows⟩ := t
  clear ht h' hs hi g1 hl
  have hb0 : Below w.heap.size w w := Below.refl _ _
  go_enter Try.func44, Try.ntmps44
  obtain ⟨w1, hw1⟩ : ∃ W, W = w.alloc (.cells #[.string s, .int .i64 ar, .slice ub un uc] 34) := ⟨_, rfl⟩
  have z1 : Below w.heap.size w w1 := by rw [hw1]; exact (Below.refl _ _).alloc (Nat.le_refl _) _
  have s1 : w1.heap.size = w.heap.size + 1 := by rw [hw1]; simp
  have hb1 := on hb0 z1
  have t_0 : w1.cell? ⟨w.heap.size, 0, none⟩ = some (.string s) := by rw [hw1]; exact box_cell (Below.refl _ _) rfl
  have t_1 : w1.cell? ⟨w.heap.size, 1, none⟩ = some (.int .i64 ar) := by rw [hw1]; exact box_cell (Below.refl _ _) rfl
  have t_2 : w1.cell? ⟨w.heap.size, 2, none⟩ = some (.slice ub un uc) := by rw [hw1]; exact box_cell (Below.refl _ _) rfl
  have raw1_t_0 := t_0
  have raw1_t_1 := t_1
  have raw1_t_2 := t_2
  rw [hw1] at raw1_t_0 raw1_t_1 raw1_t_2
  go_wp2_with fail
  rw [← hw1]
  clear hw1
  clear raw1_t_0 raw1_t_1 raw1_t_2
  refine (HG.out _ hb1).mono ?_
  rintro e w2 ⟨b2, n2, c2, rfl, o2, z2⟩
  rw [HL.out] at o2
  have s2 := z2.size
  have hb2 := on hb1 z2
  replace t_0 := (z2.cell (p := ⟨w.heap.size, 0, none⟩) (by simp only []; omega)).trans t_0
  replace t_1 := (z2.cell (p := ⟨w.heap.size, 1, none⟩) (by simp only []; omega)).trans t_1
  replace t_2 := (z2.cell (p := ⟨w.heap.size, 2, none⟩) (by simp only []; omega)).trans t_2
  have i2 := rI_ints (o2.rd reads_I)
  have hln := i2.len
  clear o2
  rcases Nat.eq_zero_or_pos n2 with h0 | h0
  · have hz : n2 = 0 := h0
    subst hz
    have HE : Hid (maxDeg (s, ar, rows) cols = 0) := Lib.hid (by rw [HD.out, List.eq_nil_of_length_eq_zero hln]; rfl)
    clear hln i2
    go_wp2_with fail
    go_ret
    exact ⟨ret_int HE.out.symm, hb2⟩
  · obtain ⟨b9, o9, x, rfl, hc, hx, hx1, hx2⟩ := i2.get h0
    have hc' : w2.cell? ⟨b9, o9, none⟩ = some (.int .i64 x) := by simpa using hc
    have HE : Hid (maxDeg (s, ar, rows) cols = x) := Lib.hid (by rw [HD.out, headOr_get]; exact hx.out)
    have hne : ((n2 : Int) == 0) = false := by rw [beq_eq_false_iff_ne]; omega
    clear hln i2 hc hx
    go_wp2_with fail
    go_ret
    exact ⟨ret_int HE.out.symm, hb2⟩

end Go.Proofs.Ytehcjdbljdpmbaa

/- Contracts: the reference's draws (6): degree sequences. -/
namespace Go.Proofs.Ytehcjdbljdpmbaa
open Go.RowKit
set_option linter.unusedVariables false
set_option linter.unusedSimpArgs false
set_option synthInstance.maxSize 2000
set_option synthInstance.maxHeartbeats 400000

theorem Bytes.at {w w' : World} {n : Nat} {a : Option Addr} (h : Bytes w w.heap.size a n) (hb : Below w.heap.size w w') : Bytes w' w'.heap.size a n :=
  ⟨h.small, fun i hi => by
    obtain ⟨b, off, v, e1, e2, e3, e4⟩ := h.cell i hi
    have := hb.size
    exact ⟨b, off, v, e1, by omega, (hb.cell (p := ⟨b, off + i, none⟩) e2).trans e3, e4⟩⟩
theorem rI_open9 {w : World} {b : Option Addr} {n c : Nat} {xs : List Int} (h : rI.rep w [.slice b n c] xs) : n = xs.length ∧ n ≤ c ∧ c ≤ 9223372036854775807 ∧ Ints w b n xs := by
  obtain ⟨a, cap, e, h1, h2, h3⟩ := rI_open h
  injection e with e1 e2 e3
  subst e1 e2 e3
  exact ⟨rfl, h1, h2, h3⟩
theorem own_some {lo hi : Nat} {w : World} {b : Option Addr} {n c : Nat} {xs : List Int} (h : Own oI lo hi w [.slice b n c] xs) (hn : 0 < n) : ∃ g, b = some ⟨g, 0, none⟩ := by
  obtain ⟨fp, h1, _, _⟩ := h
  obtain ⟨a, cap, e, ho, _⟩ := oI_own h1
  simp only [List.cons.injEq, and_true, Value.slice.injEq] at e
  obtain ⟨rfl, rfl, rfl⟩ := e
  rcases ho.row.2 with ⟨hv, _⟩ | ⟨g, cap, cur, hv, _⟩
  · simp only [Value.slice.injEq] at hv
    omega
  · simp only [Value.slice.injEq] at hv
    exact ⟨g, hv.1⟩
theorem ints_lit (W : World) (xs : List Int) (hx : ∀ x ∈ xs, I64 x) (hl : xs.length ≤ 1000) : Ints (W.alloc (.cells (xs.map (fun x => Value.int .i64 x)).toArray 3)) (some ⟨W.heap.size, 0, none⟩) xs.length xs :=
  ⟨rfl, by omega, fun i hi => by
    refine ⟨W.heap.size, 0, rfl, ?_⟩
    rw [Nat.zero_add]
    have h := fresh_cells W (xs.map (fun x => Value.int .i64 x)) 3 i (.int .i64 (xs.getD i 0)) (by rw [List.getElem?_map, List.getD_eq_getElem?_getD, List.getElem?_eq_getElem hi]; rfl)
    rw [add_zero_addr] at h
    exact h, hx⟩
theorem i64_lits {xs : List Int} (h : (xs.all fun x => decide (-9223372036854775808 ≤ x) && decide (x ≤ 9223372036854775807)) = true) : ∀ x ∈ xs, I64 x := fun x hx => by
  have := List.all_eq_true.1 h x hx
  simp only [Bool.and_eq_true, decide_eq_true_eq] at this
  exact this

set_option maxRecDepth 100000 in
set_option maxHeartbeats 2000000 in
theorem drawDegSeq_any (w : World) (ba : Option Addr) (bn bc : Nat) (hn : bn ≤ 2000000) (h : Bytes w w.heap.size ba bn) :
    Calls Try.prog 16 #[.slice ba bn bc] w fun e w' => ∃ (t : DT) (cols : List Int) (ub : Option Addr) (un uc : Nat) (cb : Option Addr) (cn cc : Nat), e = .returned (.tuple #[.agg #[.string t.1, .int .i64 t.2.1, .slice ub un uc], .slice cb cn cc]) ∧ DrawnT w.heap.size w'.heap.size w' [.string t.1, .int .i64 t.2.1, .slice ub un uc] t ∧ Own oI w.heap.size w'.heap.size w' [.slice cb cn cc] cols ∧ cols.length ≤ 4 ∧ Below w.heap.size w w' := by
  have hb0 : Below w.heap.size w w := Below.refl _ _
  go_enter Try.func16, Try.ntmps16
  obtain ⟨w1, hw1⟩ : ∃ W, W = w.alloc (.cells #[.string (ByteArray.mk #[]), .int .i64 0, .slice none 0 0] 34) := ⟨_, rfl⟩
  have z1 : Below w.heap.size w w1 := by rw [hw1]; exact (Below.refl _ _).alloc (Nat.le_refl _) _
  have s1 : w1.heap.size = w.heap.size + 1 := by rw [hw1]; simp
  have hb1 := on hb0 z1
  have R_0 : w1.cell? ⟨w.heap.size, 0, none⟩ = some (.string (ByteArray.mk #[])) := by rw [hw1]; exact box_cell (Below.refl _ _) rfl
  have R_1 : w1.cell? ⟨w.heap.size, 1, none⟩ = some (.int .i64 0) := by rw [hw1]; exact box_cell (Below.refl _ _) rfl
  have R_2 : w1.cell? ⟨w.heap.size, 2, none⟩ = some (.slice none 0 0) := by rw [hw1]; exact box_cell (Below.refl _ _) rfl
  have R_f0 : w1.frozen? ⟨w.heap.size, 0, none⟩ = false := by rw [hw1]; exact box_frozen (Below.refl _ _)
  have R_f1 : w1.frozen? ⟨w.heap.size, 1, none⟩ = false := by rw [hw1]; exact box_frozen (Below.refl _ _)
  have R_f2 : w1.frozen? ⟨w.heap.size, 2, none⟩ = false := by rw [hw1]; exact box_frozen (Below.refl _ _)
  have raw1_R_0 := R_0
  have raw1_R_1 := R_1
  have raw1_R_2 := R_2
  have raw1_R_f0 := R_f0
  have raw1_R_f1 := R_f1
  have raw1_R_f2 := R_f2
  rw [hw1] at raw1_R_0 raw1_R_1 raw1_R_2 raw1_R_f0 raw1_R_f1 raw1_R_f2
  have HBY := Lib.hid (h.at hb1)
  clear h
  go_wp2_with fail
  rw [← hw1]
  clear hw1
  clear raw1_R_0 raw1_R_1 raw1_R_2 raw1_R_f0 raw1_R_f1 raw1_R_f2
  obtain ⟨lo4, hlo4⟩ : ∃ q, q = w1.heap.size := ⟨_, rfl⟩
  refine (l10Pair_any _ ba bn bc hn HBY.out).mono ?_
  rintro e w2 ⟨t, cols, ub, un, uc, kb, kn, kc, rfl, hD, oC, hcl, z2⟩
  have s3 := z2.size
  have hb3 := on hb1 z2
  replace R_0 := (z2.cell (p := ⟨w.heap.size, 0, none⟩) (by simp only []; omega)).trans R_0
  replace R_1 := (z2.cell (p := ⟨w.heap.size, 1, none⟩) (by simp only []; omega)).trans R_1
  replace R_2 := (z2.cell (p := ⟨w.heap.size, 2, none⟩) (by simp only []; omega)).trans R_2
  replace R_f0 := (z2.frozen (p := ⟨w.heap.size, 0, none⟩) (by simp only []; omega)).trans R_f0
  replace R_f1 := (z2.frozen (p := ⟨w.heap.size, 1, none⟩) (by simp only []; omega)).trans R_f1
  replace R_f2 := (z2.frozen (p := ⟨w.heap.size, 2, none⟩) (by simp only []; omega)).trans R_f2
  clear HBY
  rw [← hlo4] at hD oC
  obtain ⟨hi5, hhi5⟩ : ∃ q, q = w2.heap.size := ⟨_, rfl⟩
  rw [← hhi5] at hD oC
  obtain ⟨w4, hw4⟩ : ∃ W, W = w2.alloc (.cells #[.string t.1, .int .i64 t.2.1, .slice ub un uc] 34) := ⟨_, rfl⟩
  have z4 : Below w2.heap.size w2 w4 := by rw [hw4]; exact (Below.refl _ _).alloc (Nat.le_refl _) _
  have s4 : w4.heap.size = w2.heap.size + 1 := by rw [hw4]; simp
  have hb4 := on hb3 z4
  have old4_R_0 := R_0
  have old4_R_1 := R_1
  have old4_R_2 := R_2
  replace R_0 := (z4.cell (p := ⟨w.heap.size, 0, none⟩) (by simp only []; omega)).trans R_0
  replace R_1 := (z4.cell (p := ⟨w.heap.size, 1, none⟩) (by simp only []; omega)).trans R_1
  replace R_2 := (z4.cell (p := ⟨w.heap.size, 2, none⟩) (by simp only []; omega)).trans R_2
  replace R_f0 := (z4.frozen (p := ⟨w.heap.size, 0, none⟩) (by simp only []; omega)).trans R_f0
  replace R_f1 := (z4.frozen (p := ⟨w.heap.size, 1, none⟩) (by simp only []; omega)).trans R_f1
  replace R_f2 := (z4.frozen (p := ⟨w.heap.size, 2, none⟩) (by simp only []; omega)).trans R_f2
  replace hD := hD.below z4 (by omega)
  replace oC := oC.below z4 (by omega)
  have X_0 : w4.cell? ⟨w2.heap.size, 0, none⟩ = some (.string t.1) := by rw [hw4]; exact box_cell (Below.refl _ _) rfl
  have X_1 : w4.cell? ⟨w2.heap.size, 1, none⟩ = some (.int .i64 t.2.1) := by rw [hw4]; exact box_cell (Below.refl _ _) rfl
  have X_2 : w4.cell? ⟨w2.heap.size, 2, none⟩ = some (.slice ub un uc) := by rw [hw4]; exact box_cell (Below.refl _ _) rfl
  have raw4_R_0 := R_0
  have raw4_R_1 := R_1
  have raw4_R_2 := R_2
  have raw4_R_f0 := R_f0
  have raw4_R_f1 := R_f1
  have raw4_R_f2 := R_f2
  have raw4_X_0 := X_0
  have raw4_X_1 := X_1
  have raw4_X_2 := X_2
  rw [hw4] at raw4_R_0 raw4_R_1 raw4_R_2 raw4_R_f0 raw4_R_f1 raw4_R_f2 raw4_X_0 raw4_X_1 raw4_X_2
  go_wp2_with fail
  rw [← hw4]
  clear hw4
  clear old4_R_0 old4_R_1 old4_R_2 raw4_R_0 raw4_R_1 raw4_R_2 raw4_R_f0 raw4_R_f1 raw4_R_f2 raw4_X_0 raw4_X_1 raw4_X_2
  refine bodyPost_ret (v := .tuple #[.agg #[.string t.1, .int .i64 t.2.1, .slice ub un uc], .slice kb kn kc]) (by simp [results, Try.results16, go_sem, R_0, R_1, R_2, R_f0, R_f1, R_f2]) rfl ⟨t, cols, ub, un, uc, kb, kn, kc, rfl, ?_, ?_, hcl, ?_⟩
  · refine DrawnT.mono (lo := lo4) (hi := hi5) ?_ (by omega) (by simp [World.setCell]; omega)
    repeat (refine DrawnT.off ?_ rfl (by simp only []; omega))
    exact hD
  · refine Own.mono (lo := lo4) (hi := hi5) ?_ (by omega) (by simp [World.setCell]; omega)
    repeat (refine own_off ?_ rfl (by simp only []; omega))
    exact oC
  · refine hb4.trans ?_
    repeat (refine Below.setCell ?_ (by simp only []; omega) _)
    exact Below.refl _ _

set_option maxRecDepth 100000 in
set_option maxHeartbeats 2000000 in
theorem l10Seq_any (w : World) (cb : Nat) (ba : Option Addr) (bn bc : Nat) (HC : Cur w cb ba bn bc) (hcb : cb < w.heap.size) :
    Calls Try.prog 83 #[.pointer (some ⟨cb, 0, none⟩)] w fun e w' => ∃ b n c xs, e = .returned (.slice b n c) ∧ Own oI w.heap.size w'.heap.size w' [.slice b n c] xs ∧ xs.length ≤ 9 ∧ Cur w' cb ba bn bc ∧ Turn cb (cb + 1) w w' := by
  have ht0 : Turn cb (cb + 1) w w := (Kept.refl cb (cb + 1) w).turn
  go_enter Try.func83, Try.ntmps83
  have h3 := ints_lit w [2, 3, 5] (i64_lits (by decide)) (by simp)
  obtain ⟨w1, hw1⟩ : ∃ W, W = w.alloc (.cells #[.int .i64 2, .int .i64 3, .int .i64 5] 3) := ⟨_, rfl⟩
  have z1 : Below w.heap.size w w1 := by rw [hw1]; exact (Below.refl _ _).alloc (Nat.le_refl _) _
  have s1 : w1.heap.size = w.heap.size + 1 := by rw [hw1]; simp
  have hb1 := turn_on' ht0 (z1.mono (by omega))
  replace HC := HC.below' z1 (by omega)
  have L_0 : w1.cell? ⟨w.heap.size, 0, none⟩ = some (.int .i64 2) := by rw [hw1]; exact box_cell (Below.refl _ _) rfl
  have L_1 : w1.cell? ⟨w.heap.size, 1, none⟩ = some (.int .i64 3) := by rw [hw1]; exact box_cell (Below.refl _ _) rfl
  have L_2 : w1.cell? ⟨w.heap.size, 2, none⟩ = some (.int .i64 5) := by rw [hw1]; exact box_cell (Below.refl _ _) rfl
  have raw1_L_0 := L_0
  have raw1_L_1 := L_1
  have raw1_L_2 := L_2
  rw [hw1] at raw1_L_0 raw1_L_1 raw1_L_2
  replace h3 : Ints w1 (some ⟨w.heap.size, 0, none⟩) 3 [2, 3, 5] := by rw [hw1]; exact h3
  clear L_0 L_1 L_2
  go_wp2_with fail
  rw [← hw1]
  clear hw1
  clear raw1_L_0 raw1_L_1 raw1_L_2
  have HC_o := HC
  clear HC
  refine (l1PickInt_any _ cb ba bn bc _ 3 3 _ (by omega) (by omega) h3 (by omega) HC_o).mono ?_
  rintro e w2 ⟨k0, rfl, hk0, HC, z2⟩
  clear HC_o
  have s3 := Nat.le_of_eq z2.size
  have s3' := Nat.le_of_eq z2.size.symm
  replace z2 := z2.turn
  have hb3 := hb1.trans z2
  clear h3
  obtain ⟨V, rfl, hV⟩ : ∃ V : Nat, k0 = (V : Int) ∧ V ≤ 100 := ⟨k0.toNat, by
    simp only [List.mem_cons, List.not_mem_nil, or_false] at hk0
    rcases hk0 with rfl | rfl | rfl <;> decide, by
    simp only [List.mem_cons, List.not_mem_nil, or_false] at hk0
    rcases hk0 with rfl | rfl | rfl <;> decide⟩
  clear hk0
  go_wp2_with fail
  obtain ⟨lo4, hlo4⟩ : ∃ q, q = w2.heap.size := ⟨_, rfl⟩
  have HC_o := HC
  clear HC
  refine (l4Tab_any _ cb ba bn bc (ByteArray.mk #[114]) 2 8 V (by omega) (by omega) (by omega) HC_o (by omega)).mono ?_
  rintro e w4 ⟨b, n, c, rows, rfl, ho, hrl, hrr, HC, z4⟩
  clear HC_o
  have s5 := z4.size
  have hb5 := hb3.trans z4
  rw [← hlo4] at ho
  obtain ⟨hi5, hhi5⟩ : ∃ q, q = w4.heap.size := ⟨_, rfl⟩
  rw [← hhi5] at ho
  have hlh : cb + 1 ≤ lo4 := by omega
  have hlh2 : lo4 ≤ hi5 := by omega
  clear hrr
  obtain ⟨w6, hw6⟩ : ∃ W, W = w4.alloc (.cells #[.string (ByteArray.mk #[114]), .int .i64 2, .slice b n c] 34) := ⟨_, rfl⟩
  have z6 : Below w4.heap.size w4 w6 := by rw [hw6]; exact (Below.refl _ _).alloc (Nat.le_refl _) _
  have s6 : w6.heap.size = w4.heap.size + 1 := by rw [hw6]; simp
  have hb6 := turn_on' hb5 (z6.mono (by omega))
  replace HC := HC.below' z6 (by omega)
  replace ho := ho.below z6 (by omega)
  have X_0 : w6.cell? ⟨w4.heap.size, 0, none⟩ = some (.string (ByteArray.mk #[114])) := by rw [hw6]; exact box_cell (Below.refl _ _) rfl
  have X_1 : w6.cell? ⟨w4.heap.size, 1, none⟩ = some (.int .i64 2) := by rw [hw6]; exact box_cell (Below.refl _ _) rfl
  have X_2 : w6.cell? ⟨w4.heap.size, 2, none⟩ = some (.slice b n c) := by rw [hw6]; exact box_cell (Below.refl _ _) rfl
  have raw6_X_0 := X_0
  have raw6_X_1 := X_1
  have raw6_X_2 := X_2
  rw [hw6] at raw6_X_0 raw6_X_1 raw6_X_2
  go_wp2_with fail
  rw [← hw6]
  clear hw6
  clear raw6_X_0 raw6_X_1 raw6_X_2
  have HOT := Lib.hid (show Own oT lo4 hi5 w6 [.string (ByteArray.mk #[114]), .int .i64 2, .slice b n c] (ByteArray.mk #[114], 2, rows) from oT_mk (x := (ByteArray.mk #[114], 2, rows)) (show (ByteArray.mk #[114]).size ≤ 9223372036854775807 by decide) (show I64 2 by constructor <;> decide) ho (Nat.le_refl _) (Nat.le_refl _))
  clear ho
  have hdr : Below w6.heap.size w6 w6.drew := (Below.refl _ _).drew
  refine wp_region_noPanic ?_
  refine wp_region_held_drew (S := (fun W => W.cell? ⟨w4.heap.size, 0, none⟩ = some (.string (ByteArray.mk #[114])) ∧ W.cell? ⟨w4.heap.size, 1, none⟩ = some (.int .i64 2) ∧ W.cell? ⟨w4.heap.size, 2, none⟩ = some (.slice b n c))) (by kernel_rfl) ?hS7 (fun hHeld => ?_)
  case hS7 => exact ⟨X_0, X_1, X_2⟩
  refine wpAnyH_take (i := 0) (v := ?v0_8) rfl (by kernel_rfl) (by kernel_rfl) (by kernel_rfl) (fun _ _ _ h => h) (Or.inl ⟨by rfl, ?hy0_8⟩) (by assumption) ?rest0_8
  case hy0_8 => intro w hSw; (try dsimp only at hSw); go_simp; (try with_reducible rfl)
  try simp only [Act.put, List.getElem_toArray, List.getElem_cons_succ, List.getElem_cons_zero, List.setIfInBounds_toArray, List.set_cons_zero, List.set_cons_succ]
  refine wpAnyH_take (i := 1) (v := ?v1_9) rfl (by kernel_rfl) (by kernel_rfl) (by kernel_rfl) (fun _ _ _ h => h) (Or.inl ⟨by rfl, ?hy1_9⟩) (by assumption) ?rest1_9
  case hy1_9 => intro w hSw; (try dsimp only at hSw); go_simp; (try with_reducible rfl)
  try simp only [Act.put, List.getElem_toArray, List.getElem_cons_succ, List.getElem_cons_zero, List.setIfInBounds_toArray, List.set_cons_zero, List.set_cons_succ]
  refine wpAnyH_ready (rs := [2]) (by kernel_rfl) (by simp) ?_
  refine AllReadyH.cons rfl (fun K hK => ?_) AllReadyH.nil
  go_simp; (refine (l1Below_any _ cb ba bn bc 2 (by omega) (HC.below' hdr (by omega))).mono ?_); rintro e wA ⟨x, rfl, hx0, hx1, hx2, HC2, kA⟩; have tA : Turn cb (cb + 1) w6 wA := (turn_below hdr (Nat.le_refl _)).trans kA.turn; have sA := tA.size; have hbA := hb6.trans tA; have HOA := Lib.hid (HOT.out.turn tA (by omega)); replace X_0 := (tA.cell (p := ⟨w4.heap.size, 0, none⟩) (by simp only []; omega) (by simp only []; omega)).trans X_0; replace X_1 := (tA.cell (p := ⟨w4.heap.size, 1, none⟩) (by simp only []; omega) (by simp only []; omega)).trans X_1; replace X_2 := (tA.cell (p := ⟨w4.heap.size, 2, none⟩) (by simp only []; omega) (by simp only []; omega)).trans X_2; have hx9 : x ≤ 1 := by { have := hx1 (by omega); omega }; clear hx1 hx2 kA tA HOT HC
  refine hK.out _ _ ?_ (fun hHeld => ?_)
  · exact ⟨X_0, X_1, X_2⟩
  clear hK K
  try simp only [Act.put, List.setIfInBounds_toArray, List.set_cons_zero, List.set_cons_succ]
  refine wpAnyH_ready (rs := [3]) (by kernel_rfl) (by simp) ?_
  refine AllReadyH.cons rfl (fun K hK => ?_) AllReadyH.nil
  go_simp; have oL := own_lit1 (W := wA) (a := x) ⟨by omega, by omega⟩; obtain ⟨wB, hwB⟩ : ∃ W, W = wA.alloc (.cells #[.int .i64 x] 3) := ⟨_, rfl⟩; rw [← hwB] at oL ⊢; have zB : Below wA.heap.size wA wB := by { rw [hwB]; exact (Below.refl _ _).alloc (Nat.le_refl _) _ }; have sB : wB.heap.size = wA.heap.size + 1 := by { rw [hwB]; simp }; clear hwB; have hbB := turn_on' hbA (zB.mono (by omega)); replace HC2 := HC2.below' zB (by omega); have HOB := Lib.hid (HOA.out.below zB (by omega)); replace X_0 := (zB.cell (p := ⟨w4.heap.size, 0, none⟩) (by simp only []; omega)).trans X_0; replace X_1 := (zB.cell (p := ⟨w4.heap.size, 1, none⟩) (by simp only []; omega)).trans X_1; replace X_2 := (zB.cell (p := ⟨w4.heap.size, 2, none⟩) (by simp only []; omega)).trans X_2; clear HOA
  refine hK.out _ _ ?_ (fun hHeld => ?_)
  · exact ⟨X_0, X_1, X_2⟩
  clear hK K
  try simp only [Act.put, List.setIfInBounds_toArray, List.set_cons_zero, List.set_cons_succ]
  refine wpAnyH_ready (rs := [4]) (by kernel_rfl) (by simp) ?_
  refine AllReadyH.cons rfl (fun K hK => ?_) AllReadyH.nil
  go_simp; (refine (degSeq_spec _ _ (ByteArray.mk #[114], 2, rows) [x] _ (HOB.out.rd reads_T) (oL.rd reads_I)).mono ?_); rintro e wD ⟨db, dn, dc, rfl, oD, zD⟩; have sD := zD.size; have hbD := turn_on' hbB (zD.mono (by omega)); replace HC2 := HC2.below' zD (by omega); replace X_0 := (zD.cell (p := ⟨w4.heap.size, 0, none⟩) (by simp only []; omega)).trans X_0; replace X_1 := (zD.cell (p := ⟨w4.heap.size, 1, none⟩) (by simp only []; omega)).trans X_1; replace X_2 := (zD.cell (p := ⟨w4.heap.size, 2, none⟩) (by simp only []; omega)).trans X_2; clear HOB oL zD zB
  refine hK.out _ _ ?_ (fun hHeld => ?_)
  · exact ⟨X_0, X_1, X_2⟩
  clear hK K
  try simp only [Act.put, List.setIfInBounds_toArray, List.set_cons_zero, List.set_cons_succ]
  refine wpAnyH_take (i := 5) (v := ?v5_10) rfl (by kernel_rfl) (by kernel_rfl) (by kernel_rfl) (fun _ _ _ h => h) (Or.inl ⟨by rfl, ?hy5_10⟩) (by assumption) ?rest5_10
  case hy5_10 => intro w hSw; (try dsimp only at hSw); go_simp; (try with_reducible rfl)
  try simp only [Act.put, List.getElem_toArray, List.getElem_cons_succ, List.getElem_cons_zero, List.setIfInBounds_toArray, List.set_cons_zero, List.set_cons_succ]
  refine wpAnyH_done (by kernel_rfl) ?_ _
  refine NoPanic.normal ?_
  have hdl := degSeq_len (ByteArray.mk #[114], 2, rows) [x]
  obtain ⟨ds, hds⟩ : ∃ q, degSeq (ByteArray.mk #[114], 2, rows) [x] = q := ⟨_, rfl⟩
  rw [hds] at oD hdl
  clear hds hhi5 hlo4 hrl hdr X_0 X_1 X_2
  obtain ⟨lo6, hlo6⟩ : ∃ q, q = wB.heap.size := ⟨_, rfl⟩
  rw [← hlo6] at oD
  have hl6 : w.heap.size ≤ lo6 ∧ cb + 1 ≤ lo6 := by omega
  have hl7 : lo6 ≤ wD.heap.size := by omega
  clear sD sB sA hlo6
  obtain ⟨hi6, hhi6⟩ : ∃ q, q = wD.heap.size := ⟨_, rfl⟩
  rw [← hhi6] at oD
  have hl8 : lo6 ≤ hi6 := by omega
  go_wp2_with fail
  have HC2_o := HC2
  clear HC2
  refine (l1Once_any _ cb ba bn bc 10 (by omega) HC2_o).mono ?_
  rintro e w11 ⟨t, rfl, HC2, z11⟩
  clear HC2_o
  have s12 := Nat.le_of_eq z11.size
  have s12' := Nat.le_of_eq z11.size.symm
  replace z11 := z11.turn
  have hb12 := hbD.trans z11
  replace oD := oD.turn z11 (by omega)
  cases t with
  | false =>
    have HO := Lib.hid (oD.mono (show w.heap.size ≤ lo6 by omega) (show hi6 ≤ w11.heap.size by omega))
    clear oD
    go_wp2_with fail
    go_ret
    exact ⟨_, _, _, ds, rfl, HO.out, by omega, HC2, hb12⟩
  | true =>
    have h5 := ints_lit w11 [0, 1, 9, -1, 9223372036854775807] (i64_lits (by decide)) (by simp)
    obtain ⟨w13, hw13⟩ : ∃ W, W = w11.alloc (.cells #[.int .i64 0, .int .i64 1, .int .i64 9, .int .i64 (-1), .int .i64 9223372036854775807] 3) := ⟨_, rfl⟩
    have z13 : Below w11.heap.size w11 w13 := by rw [hw13]; exact (Below.refl _ _).alloc (Nat.le_refl _) _
    have s13 : w13.heap.size = w11.heap.size + 1 := by rw [hw13]; simp
    have hb13 := turn_on' hb12 (z13.mono (by omega))
    replace HC2 := HC2.below' z13 (by omega)
    replace oD := oD.below z13 (by omega)
    have L_0 : w13.cell? ⟨w11.heap.size, 0, none⟩ = some (.int .i64 0) := by rw [hw13]; exact box_cell (Below.refl _ _) rfl
    have L_1 : w13.cell? ⟨w11.heap.size, 1, none⟩ = some (.int .i64 1) := by rw [hw13]; exact box_cell (Below.refl _ _) rfl
    have L_2 : w13.cell? ⟨w11.heap.size, 2, none⟩ = some (.int .i64 9) := by rw [hw13]; exact box_cell (Below.refl _ _) rfl
    have L_3 : w13.cell? ⟨w11.heap.size, 3, none⟩ = some (.int .i64 (-1)) := by rw [hw13]; exact box_cell (Below.refl _ _) rfl
    have L_4 : w13.cell? ⟨w11.heap.size, 4, none⟩ = some (.int .i64 9223372036854775807) := by rw [hw13]; exact box_cell (Below.refl _ _) rfl
    have raw13_L_0 := L_0
    have raw13_L_1 := L_1
    have raw13_L_2 := L_2
    have raw13_L_3 := L_3
    have raw13_L_4 := L_4
    rw [hw13] at raw13_L_0 raw13_L_1 raw13_L_2 raw13_L_3 raw13_L_4
    replace h5 : Ints w13 (some ⟨w11.heap.size, 0, none⟩) 5 [0, 1, 9, -1, 9223372036854775807] := by rw [hw13]; exact h5
    clear L_0 L_1 L_2 L_3 L_4
    go_wp2_with fail
    rw [← hw13]
    clear hw13
    clear raw13_L_0 raw13_L_1 raw13_L_2 raw13_L_3 raw13_L_4
    have HC2_o := HC2
    clear HC2
    refine (l1PickInt_any _ cb ba bn bc _ 5 5 _ (by omega) (by omega) h5 (by omega) HC2_o).mono ?_
    rintro e w14 ⟨y, rfl, hy, HC2, z14⟩
    clear HC2_o
    have s15 := Nat.le_of_eq z14.size
    have s15' := Nat.le_of_eq z14.size.symm
    replace z14 := z14.turn
    have hb15 := hb13.trans z14
    replace oD := oD.turn z14 (by omega)
    have hy64 : I64 y := i64_lits (by decide) y hy
    clear h5 hy
    obtain ⟨na, nn, nc, wn, hrn, on_, hbn, hzn⟩ := own_num 24 oD (r := y) hy64 (by omega) (by omega) (by omega) rfl
    have HCN := Lib.hid (HC2.below' hbn (by omega))
    have TN := Lib.hid (turn_on' hb15 (hbn.mono (by omega)))
    have HO := Lib.hid (on_.mono (show w.heap.size ≤ lo6 by omega) (Nat.le_refl _))
    clear on_ oD hbn
    go_wp2_with ((at_builtin; refine wpList_app_run hrn rfl rfl rfl rfl rfl ?_))
    go_ret
    exact ⟨_, _, _, ds ++ [y], rfl, HO.out, by rw [List.length_append]; simp; omega, HCN.out, TN.out⟩

set_option maxRecDepth 100000 in
set_option maxHeartbeats 2000000 in
theorem l11Pair_any (w : World) (ba : Option Addr) (bn bc : Nat) (hn : bn ≤ 2000000) (h : Bytes w w.heap.size ba bn) :
    Calls Try.prog 48 #[.slice ba bn bc] w fun e w' => ∃ b n c xs b2 n2 c2 ys, e = .returned (.tuple #[.slice b n c, .slice b2 n2 c2]) ∧ Own oI w.heap.size w'.heap.size w' [.slice b n c] xs ∧ Own oI w.heap.size w'.heap.size w' [.slice b2 n2 c2] ys ∧ (xs.length ≤ 9 ∧ ys.length ≤ 9) ∧ Below w.heap.size w w' := by
  have hb0 : Below w.heap.size w w := Below.refl _ _
  go_enter Try.func48, Try.ntmps48
  go_wp2_with fail
  refine (l1New_any _ ba bn bc hn h).mono ?_
  rintro e w1 ⟨cb, rfl, HC, z1, hcb1, hcb2⟩
  have s2 := z1.size
  have hb2 := on hb0 z1
  clear h
  go_wp2_with fail
  have HC_o := HC
  clear HC
  refine (l10Seq_any _ cb ba bn bc HC_o (by omega)).mono ?_
  rintro e w3 ⟨b, n, c, xs, rfl, o1, hx1, HC, z3⟩
  clear HC_o
  have s4 := z3.size
  have hb4 := hb2.trans ((z3.below (by omega)).mono (by omega))
  obtain ⟨lo1, hlo1⟩ : ∃ q, q = w1.heap.size := ⟨_, rfl⟩
  rw [← hlo1] at o1
  go_wp2_with fail
  have HC_o := HC
  clear HC
  refine (l10Seq_any _ cb ba bn bc HC_o (by omega)).mono ?_
  rintro e w5 ⟨b2, n2, c2, ys, rfl, o2, hx2, HC, z5⟩
  clear HC_o
  have s6 := z5.size
  have hb6 := hb4.trans ((z5.below (by omega)).mono (by omega))
  replace o1 := o1.turn z5 (by omega)
  have HO1 := Lib.hid (o1.mono (show w.heap.size ≤ lo1 by omega) (show _ ≤ w5.heap.size by omega))
  have HO2 := Lib.hid (o2.mono (show w.heap.size ≤ _ by omega) (Nat.le_refl _))
  clear o1 o2
  go_wp2_with fail
  refine bodyPost_ret (v := .tuple #[.slice b n c, .slice b2 n2 c2]) (by simp [results, Try.results48, go_sem]) rfl ⟨b, n, c, xs, b2, n2, c2, ys, rfl, HO1.out, HO2.out, ⟨hx1, hx2⟩, hb6⟩

theorem drawPair_any (w : World) (ba : Option Addr) (bn bc : Nat) (hn : bn ≤ 2000000) (h : Bytes w w.heap.size ba bn) :
    Calls Try.prog 7 #[.slice ba bn bc] w fun e w' => ∃ b n c xs b2 n2 c2 ys, e = .returned (.tuple #[.slice b n c, .slice b2 n2 c2]) ∧ Own oI w.heap.size w'.heap.size w' [.slice b n c] xs ∧ Own oI w.heap.size w'.heap.size w' [.slice b2 n2 c2] ys ∧ (xs.length ≤ 9 ∧ ys.length ≤ 9) ∧ Below w.heap.size w w' := by
  have hb0 : Below w.heap.size w w := Below.refl _ _
  go_enter Try.func7, Try.ntmps7
  go_wp2_with fail
  refine (l11Pair_any _ ba bn bc hn h).mono ?_
  rintro e w1 ⟨b, n, c, xs, b2, n2, c2, ys, rfl, o1, o2, hx, z1⟩
  have s2 := z1.size
  have hb2 := on hb0 z1
  have HO1 := Lib.hid o1
  have HO2 := Lib.hid o2
  clear o1 o2 h
  go_wp2_with fail
  refine bodyPost_ret (v := .tuple #[.slice b n c, .slice b2 n2 c2]) (by simp [results, Try.results48, go_sem]) rfl ⟨b, n, c, xs, b2, n2, c2, ys, rfl, HO1.out, HO2.out, hx, hb2⟩

set_option maxRecDepth 100000 in
set_option maxHeartbeats 2000000 in
theorem drawDom_any (w : World) (ba : Option Addr) (bn bc : Nat) (hn : bn ≤ 2000000) (h : Bytes w w.heap.size ba bn) :
    Calls Try.prog 45 #[.slice ba bn bc] w fun e w' => ∃ b n c xs b2 n2 c2 ys, e = .returned (.tuple #[.slice b n c, .slice b2 n2 c2]) ∧ Own oI w.heap.size w'.heap.size w' [.slice b n c] xs ∧ Own oI w.heap.size w'.heap.size w' [.slice b2 n2 c2] ys ∧ (xs.length ≤ 9 ∧ ys.length ≤ 9) ∧ Below w.heap.size w w' := by
  have hb0 : Below w.heap.size w w := Below.refl _ _
  go_enter Try.func45, Try.ntmps45
  go_wp2_with fail
  refine (l1New_any _ ba bn bc hn h).mono ?_
  rintro e w1 ⟨cb, rfl, HC, z1, hcb1, hcb2⟩
  have s2 := z1.size
  have hb2 := on hb0 z1
  clear h
  go_wp2_with fail
  have HC_o := HC
  clear HC
  refine (l10Seq_any _ cb ba bn bc HC_o (by omega)).mono ?_
  rintro e w3 ⟨b, n, c, xs, rfl, o1, hx1, HC, z3⟩
  clear HC_o
  have s4 := z3.size
  have hb4 := hb2.trans ((z3.below (by omega)).mono (by omega))
  obtain ⟨lo1, hlo1⟩ : ∃ q, q = w1.heap.size := ⟨_, rfl⟩
  rw [← hlo1] at o1
  obtain ⟨hnl, hnc, hcm, i1⟩ := rI_open9 (o1.rd reads_I)
  subst hnl
  by_cases hlt : 1 < xs.length
  · have hgt : (xs.length : Int) > 1 := by omega
    obtain ⟨g, rfl⟩ := own_some o1 (by omega)
    go_wp2_with fail
    have HC_o := HC
    clear HC
    refine (l1Once_any _ cb ba bn bc 3 (by omega) HC_o).mono ?_
    rintro e w5 ⟨t, rfl, HC, z5⟩
    clear HC_o
    have s6 := Nat.le_of_eq z5.size
    have s6' := Nat.le_of_eq z5.size.symm
    replace z5 := z5.turn
    have hb6 := hb4.trans ((z5.below (by omega)).mono (by omega))
    replace o1 := o1.turn z5 (by omega)
    cases t with
    | true =>
      have hc1 : ¬ c = 1 := by omega
      have i5 : Ints w5 (some ⟨g, 0, none⟩) xs.length xs := (rI_open9 (o1.rd reads_I)).2.2.2
      have i6 := i5.dropTo (k := 1) (by omega)
      rw [Nat.zero_add] at i6
      have zE : Below w5.heap.size w5 (w5.alloc (.cells #[] 3)) := (Below.refl _ _).alloc (Nat.le_refl _) _
      have oE : OwnInts w5.heap.size (w5.alloc (.cells #[] 3)) (.slice (some ⟨w5.heap.size, 0, none⟩) 0 0) 0 [] := own_empty (Nat.le_refl _)
      obtain ⟨g2, c2, wN, hrun, oN, zN, _, hkN⟩ := run_appI (w5.alloc (.cells #[] 3)) w5.heap.size w5.heap.size 0 0 [] ⟨g, 1, none⟩ (xs.length - 1) (c - 1) (xs.drop 1) 24 oE (by simp) (i6.below zE) (by omega) (by omega)
      have sE := zE.size
      have sN := Nat.le_trans sE zN.size
      clear sE
      have HO1 := Lib.hid ((o1.below zE (by omega)).below zN (by omega))
      have HO2 := Lib.hid oN.own
      have hbN := hb6.trans ((zE.trans zN).mono (by omega))
      clear o1 oN oE i5 i6 zE zN hkN i1
      have hlen : (0 : Nat) + (xs.length - 1) ≤ 9 := by omega
      go_wp2_with (at_builtin; refine wpList_app_run hrun rfl rfl rfl rfl rfl ?_)
      refine bodyPost_ret (v := .tuple #[.slice (some ⟨g, 0, none⟩) xs.length c, .slice (some ⟨g2, 0, none⟩) (0 + (xs.length - 1)) c2]) (by simp [results, Try.results45, go_sem]) rfl ⟨some ⟨g, 0, none⟩, xs.length, c, xs, some ⟨g2, 0, none⟩, _, c2, _, rfl, HO1.out.mono (by omega) ?_, HO2.out.mono (by omega) (Nat.le_refl _), ⟨hx1, by simp; omega⟩, hbN⟩
      omega
    | false =>
      go_wp2_with fail
      have HC_o := HC
      clear HC
      refine (l10Seq_any _ cb ba bn bc HC_o (by omega)).mono ?_
      rintro e w7 ⟨b2, n2, c2, ys, rfl, o2, hx2, HC, z7⟩
      clear HC_o
      have s8 := z7.size
      have hb8 := hb6.trans ((z7.below (by omega)).mono (by omega))
      replace o1 := o1.turn z7 (by omega)
      have HO1 := Lib.hid (o1.mono (show w.heap.size ≤ lo1 by omega) (show _ ≤ w7.heap.size by omega))
      have HO2 := Lib.hid (o2.mono (show w.heap.size ≤ _ by omega) (Nat.le_refl _))
      clear o1 o2
      go_wp2_with fail
      refine bodyPost_ret (v := .tuple #[.slice (some ⟨g, 0, none⟩) xs.length c, .slice b2 n2 c2]) (by simp [results, Try.results45, go_sem]) rfl ⟨some ⟨g, 0, none⟩, xs.length, c, xs, b2, n2, c2, ys, rfl, HO1.out, HO2.out, ⟨hx1, hx2⟩, hb8⟩
  · have hgt : ¬ (xs.length : Int) > 1 := by omega
    go_wp2_with fail
    have HC_o := HC
    clear HC
    refine (l10Seq_any _ cb ba bn bc HC_o (by omega)).mono ?_
    rintro e w9 ⟨b2, n2, c2, ys, rfl, o2, hx2, HC, z9⟩
    clear HC_o
    have s10 := z9.size
    have hb10 := hb4.trans ((z9.below (by omega)).mono (by omega))
    replace o1 := o1.turn z9 (by omega)
    have HO1 := Lib.hid (o1.mono (show w.heap.size ≤ lo1 by omega) (show _ ≤ w9.heap.size by omega))
    have HO2 := Lib.hid (o2.mono (show w.heap.size ≤ _ by omega) (Nat.le_refl _))
    clear o1 o2
    go_wp2_with fail
    refine bodyPost_ret (v := .tuple #[.slice b xs.length c, .slice b2 n2 c2]) (by simp [results, Try.results45, go_sem]) rfl ⟨b, xs.length, c, xs, b2, n2, c2, ys, rfl, HO1.out, HO2.out, ⟨hx1, hx2⟩, hb10⟩

end Go.Proofs.Ytehcjdbljdpmbaa
