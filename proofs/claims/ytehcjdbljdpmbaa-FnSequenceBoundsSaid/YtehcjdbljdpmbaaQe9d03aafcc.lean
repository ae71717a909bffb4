/- Texts joined for one claim: DegQ, DegPl, Draw6, BndPl, Draw7. -/
import Derived.Test.YtehcjdbljdpmbaaQ9bcbd883b1
import Derived.Test.YtehcjdbljdpmbaaQ31ff3c6754
import Derived.Test.YtehcjdbljdpmbaaQ92fc86052f
import Derived.Test.YtehcjdbljdpmbaaQ05ab70db57
import Derived.Test.YtehcjdbljdpmbaaQ49782e6c86
import Derived.Test.YtehcjdbljdpmbaaQ25a8d9f949
import Derived.Test.YtehcjdbljdpmbaaQ1f953fefca

/- Contracts: degree sequences of tables, and the greatest degree. -/
namespace Go.Proofs.Ytehcjdbljdpmbaa
open Go.RowKit
set_option linter.unusedVariables false
set_option linter.unusedSimpArgs false
set_option synthInstance.maxSize 2000
set_option synthInstance.maxHeartbeats 400000

theorem degSeq_len (t : DT) (cs : List Int) : (degSeq t cs).length ≤ 8 := by
  unfold degSeq
  rw [downS_len]
  have h1 := grpV_facts t cs
  have h2 := grpN_facts t cs
  omega
theorem degSeq_impl (v : Value) (cs : List Value) (t : DT) (cols : List Int) (w : World) (ht : rT.rep w cs t) (h' : rI.rep w [v] cols) :
    Calls Try.prog 41 #[.agg cs.toArray, v] w fun e w' => ∃ b n c, e = .returned (.slice b n c) ∧ Own oI w.heap.size w'.heap.size w' [.slice b n c] (degSeq t cols) ∧ Below w.heap.size w w' := by
  obtain ⟨b, m, d, hv⟩ := rI_form h'
  simp at hv; subst hv
  have HG := Lib.hid (fun W (hW : Below w.heap.size w W) => groups_impl _ cs t cols W (rT.mono ht hW) (rI.mono h' hW))
  obtain ⟨ub, un, uc, rfl, hs, hi, g1⟩ := rT_open ht
  obtain ⟨l, hl⟩ : ∃ l, grpN t cols = l := ⟨_, rfl⟩
  have hl8 : l.length ≤ 8 := by rw [← hl]; have h1 := grpV_facts t cols; have h2 := grpN_facts t cols; omega
  have HD : Hid (degSeq t cols = (sortL l).reverse) := Lib.hid (by rw [← hl]; rfl)
  have HL := Lib.hid hl
  obtain ⟨s, ar, rows⟩ := t
  clear ht h' hs hi g1 hl
  have hb0 : Below w.heap.size w w := Below.refl _ _
  go_enter Try.func41, Try.ntmps41
  obtain ⟨w1, hw1⟩ : ∃ W, W = w.alloc (.cells #[.string s, .int .i64 ar, .slice ub un uc] 34) := ⟨_, rfl⟩
  have z1 : Below w.heap.size w w1 := by rw [hw1]; exact (Below.refl _ _).alloc (Nat.le_refl _) _
  have s1 : w1.heap.size = w.heap.size + 1 := by rw [hw1]; simp
  have hb1 := on hb0 z1
  have t_0 : w1.cell? ⟨w.heap.size, 0, none⟩ = some (.string s) := by rw [hw1]; exact box_cell (Below.refl _ _) rfl
  have t_1 : w1.cell? ⟨w.heap.size, 1, none⟩ = some (.int .i64 ar) := by rw [hw1]; exact box_cell (Below.refl _ _) rfl
  have t_2 : w1.cell? ⟨w.heap.size, 2, none⟩ = some (.slice ub un uc) := by rw [hw1]; exact box_cell (Below.refl _ _) rfl
  have raw1_t_0 := t_0
  have raw1_t_1 := t_1
  have raw1_t_2 := t_2
  rw [hw1] at raw1_t_0 raw1_t_1 raw1_t_2
  go_wp2_with fail
  rw [← hw1]
  clear hw1
  clear raw1_t_0 raw1_t_1 raw1_t_2
  refine (HG.out _ hb1).mono ?_
  rintro e w2 ⟨b1, n1, c1, b2, n2, c2, wm, rfl, o1, o2, hm1, hm2, z2⟩
  rw [HL.out] at o2
  clear o1
  have s2 := z2.size
  have hb2 := on hb1 z2
  replace t_0 := (z2.cell (p := ⟨w.heap.size, 0, none⟩) (by simp only []; omega)).trans t_0
  replace t_1 := (z2.cell (p := ⟨w.heap.size, 1, none⟩) (by simp only []; omega)).trans t_1
  replace t_2 := (z2.cell (p := ⟨w.heap.size, 2, none⟩) (by simp only []; omega)).trans t_2
  go_wp2_with fail
  refine (copyInts_any _ l _ (o2.rd reads_I) (by omega)).mono ?_
  rintro e w3 ⟨u, rfl, o3, z3⟩
  obtain ⟨b3, n3, c3, rfl⟩ := oI_form1 o3
  clear o2
  have s3 := z3.size
  have hb3 := on hb2 z3
  replace t_0 := (z3.cell (p := ⟨w.heap.size, 0, none⟩) (by simp only []; omega)).trans t_0
  replace t_1 := (z3.cell (p := ⟨w.heap.size, 1, none⟩) (by simp only []; omega)).trans t_1
  replace t_2 := (z3.cell (p := ⟨w.heap.size, 2, none⟩) (by simp only []; omega)).trans t_2
  go_wp2_with fail
  refine (sortI_any _ l _ _ _ o3 (by omega) (show w2.heap.size ≤ w3.heap.size by omega)).mono ?_
  rintro e w4 ⟨rfl, o4, z4⟩
  have hbx := (hb3).trans (z4.mono (by omega))
  have s4 := z4.size
  go_wp2_with fail
  refine (reverseI_any _ _ _ _ _ o4 (by rw [sortL_len]; omega) (show w2.heap.size ≤ w4.heap.size by omega)).mono ?_
  rintro e w5 ⟨rfl, o5, z5⟩
  have hby := hbx.trans (z5.mono (by omega))
  have s5 := z5.size
  have HO := Lib.hid (o5.mono (lo' := w.heap.size) (hi' := w5.heap.size) (by omega) (by omega))
  clear o5 o4 o3
  go_wp2_with fail
  go_ret
  exact ⟨_, _, _, rfl, by rw [HD.out]; exact HO.out, hby⟩

theorem degSeq_spec (v : Value) (cs : List Value) (t : DT) (cols : List Int) (w : World) (ht : rT.rep w cs t) (h' : rI.rep w [v] cols) :
    Calls Try.prog 21 #[.agg cs.toArray, v] w fun e w' => ∃ b n c, e = .returned (.slice b n c) ∧ Own oI w.heap.size w'.heap.size w' [.slice b n c] (degSeq t cols) ∧ Below w.heap.size w w' := by
  obtain ⟨b, m, d, hv⟩ := rI_form h'
  simp at hv; subst hv
  have HG := Lib.hid (fun W (hW : Below w.heap.size w W) => groups_spec _ cs t cols W (rT.mono ht hW) (rI.mono h' hW))
  obtain ⟨ub, un, uc, rfl, hs, hi, g1⟩ := rT_open ht
  obtain ⟨l, hl⟩ : ∃ l, grpN t cols = l := ⟨_, rfl⟩
  have hl8 : l.length ≤ 8 := by rw [← hl]; have h1 := grpV_facts t cols; have h2 := grpN_facts t cols; omega
  have HD : Hid (degSeq t cols = downS l) := Lib.hid (by rw [← hl]; rfl)
  have HL := Lib.hid hl
  obtain ⟨s, ar, rows⟩ := t
  clear ht h' hs hi g1 hl
  have hb0 : Below w.heap.size w w := Below.refl _ _
  go_enter Try.func21, Try.ntmps21
  obtain ⟨w1, hw1⟩ : ∃ W, W = w.alloc (.cells #[.string s, .int .i64 ar, .slice ub un uc] 34) := ⟨_, rfl⟩
  have z1 : Below w.heap.size w w1 := by rw [hw1]; exact (Below.refl _ _).alloc (Nat.le_refl _) _
  have s1 : w1.heap.size = w.heap.size + 1 := by rw [hw1]; simp
  have hb1 := on hb0 z1
  have t_0 : w1.cell? ⟨w.heap.size, 0, none⟩ = some (.string s) := by rw [hw1]; exact box_cell (Below.refl _ _) rfl
  have t_1 : w1.cell? ⟨w.heap.size, 1, none⟩ = some (.int .i64 ar) := by rw [hw1]; exact box_cell (Below.refl _ _) rfl
  have t_2 : w1.cell? ⟨w.heap.size, 2, none⟩ = some (.slice ub un uc) := by rw [hw1]; exact box_cell (Below.refl _ _) rfl
  have raw1_t_0 := t_0
  have raw1_t_1 := t_1
  have raw1_t_2 := t_2
  rw [hw1] at raw1_t_0 raw1_t_1 raw1_t_2
  go_wp2_with fail
  rw [← hw1]
  clear hw1
  clear raw1_t_0 raw1_t_1 raw1_t_2
  refine (HG.out _ hb1).mono ?_
  rintro e w2 ⟨b1, n1, c1, b2, n2, c2, rfl, o1, o2, z2⟩
  rw [HL.out] at o2
  clear o1
  have s2 := z2.size
  have hb2 := on hb1 z2
  replace t_0 := (z2.cell (p := ⟨w.heap.size, 0, none⟩) (by simp only []; omega)).trans t_0
  replace t_1 := (z2.cell (p := ⟨w.heap.size, 1, none⟩) (by simp only []; omega)).trans t_1
  replace t_2 := (z2.cell (p := ⟨w.heap.size, 2, none⟩) (by simp only []; omega)).trans t_2
  go_wp2_with fail
  refine (down_any _ l _ (o2.rd reads_I) (by omega)).mono ?_
  rintro e w3 ⟨b3, n3, c3, rfl, o3, z3⟩
  clear o2
  have s3 := z3.size
  have hb3 := on hb2 z3
  replace t_0 := (z3.cell (p := ⟨w.heap.size, 0, none⟩) (by simp only []; omega)).trans t_0
  replace t_1 := (z3.cell (p := ⟨w.heap.size, 1, none⟩) (by simp only []; omega)).trans t_1
  replace t_2 := (z3.cell (p := ⟨w.heap.size, 2, none⟩) (by simp only []; omega)).trans t_2
  have HO := Lib.hid (o3.mono (lo' := w.heap.size) (hi' := w3.heap.size) (by omega) (by omega))
  clear o3
  go_wp2_with fail
  go_ret
  exact ⟨_, _, _, rfl, by rw [HD.out]; exact HO.out, hb3⟩
theorem degSeq_impl' (v : Value) (cs : List Value) (t : DT) (cols : List Int) (w : World) (ht : rT.rep w cs t) (h' : rI.rep w [v] cols) :
    Calls Try.prog 41 #[.agg cs.toArray, v] w fun e w' => ∃ u, e = .returned u ∧ Own oI w.heap.size w'.heap.size w' [u] (degSeq t cols) ∧ Below w.heap.size w w' :=
  (degSeq_impl v cs t cols w ht h').mono fun e w' ⟨_, _, _, he, h1, h2⟩ => ⟨_, he, h1, h2⟩
theorem degSeq_spec' (v : Value) (cs : List Value) (t : DT) (cols : List Int) (w : World) (ht : rT.rep w cs t) (h' : rI.rep w [v] cols) :
    Calls Try.prog 21 #[.agg cs.toArray, v] w fun e w' => ∃ u, e = .returned u ∧ Own oI w.heap.size w'.heap.size w' [u] (degSeq t cols) ∧ Below w.heap.size w w' :=
  (degSeq_spec v cs t cols w ht h').mono fun e w' ⟨_, _, _, he, h1, h2⟩ => ⟨_, he, h1, h2⟩
def maxDeg (t : DT) (cs : List Int) : Int := headOr (degSeq t cs)

theorem maxDeg_impl (v : Value) (cs : List Value) (t : DT) (cols : List Int) (w : World) (ht : rT.rep w cs t) (h' : rI.rep w [v] cols) :
    Calls Try.prog 44 #[.agg cs.toArray, v] w fun e w' => e = .returned (.int .i64 (maxDeg t cols)) ∧ Below w.heap.size w w' := by
  obtain ⟨b, m, d, hv⟩ := rI_form h'
  simp at hv; subst hv
  have HG := Lib.hid (fun W (hW : Below w.heap.size w W) => degSeq_impl _ cs t cols W (rT.mono ht hW) (rI.mono h' hW))
  obtain ⟨ub, un, uc, rfl, hs, hi, g1⟩ := rT_open ht
  obtain ⟨l, hl⟩ : ∃ l, degSeq t cols = l := ⟨_, rfl⟩
  have hl8 : l.length ≤ 8 := by rw [← hl]; exact degSeq_len t cols
  have HD : Hid (maxDeg t cols = headOr l) := Lib.hid (by rw [← hl]; rfl)
  have HL := Lib.hid hl
  obtain ⟨s, ar, rows⟩ := t
  clear ht h' hs hi g1 hl
  have hb0 : Below w.heap.size w w := Below.refl _ _
  go_enter Try.func44, Try.ntmps44
  obtain ⟨w1, hw1⟩ : ∃ W, W = w.alloc (.cells #[.string s, .int .i64 ar, .slice ub un uc] 34) := ⟨_, rfl⟩
  have z1 : Below w.heap.size w w1 := by rw [hw1]; exact (Below.refl _ _).alloc (Nat.le_refl _) _
  have s1 : w1.heap.size = w.heap.size + 1 := by rw [hw1]; simp
  have hb1 := on hb0 z1
  have t_0 : w1.cell? ⟨w.heap.size, 0, none⟩ = some (.string s) := by rw [hw1]; exact box_cell (Below.refl _ _) rfl
  have t_1 : w1.cell? ⟨w.heap.size, 1, none⟩ = some (.int .i64 ar) := by rw [hw1]; exact box_cell (Below.refl _ _) rfl
  have t_2 : w1.cell? ⟨w.heap.size, 2, none⟩ = some (.slice ub un uc) := by rw [hw1]; exact box_cell (Below.refl _ _) rfl
  have raw1_t_0 := t_0
  have raw1_t_1 := t_1
  have raw1_t_2 := t_2
  rw [hw1] at raw1_t_0 raw1_t_1 raw1_t_2
  go_wp2_with fail
  rw [← hw1]
  clear hw1
  clear raw1_t_0 raw1_t_1 raw1_t_2
  refine (HG.out _ hb1).mono ?_
  rintro e w2 ⟨b2, n2, c2, rfl, o2, z2⟩
  rw [HL.out] at o2
  have s2 := z2.size
  have hb2 := on hb1 z2
  replace t_0 := (z2.cell (p := ⟨w.heap.size, 0, none⟩) (by simp only []; omega)).trans t_0
  replace t_1 := (z2.cell (p := ⟨w.heap.size, 1, none⟩) (by simp only []; omega)).trans t_1
  replace t_2 := (z2.cell (p := ⟨w.heap.size, 2, none⟩) (by simp only []; omega)).trans t_2
  have i2 := rI_ints (o2.rd reads_I)
  have hln := i2.len
  clear o2
  rcases Nat.eq_zero_or_pos n2 with h0 | h0
  · have hz : n2 = 0 := h0
    subst hz
    have HE : Hid (maxDeg (s, ar, rows) cols = 0) := Lib.hid (by rw [HD.out, List.eq_nil_of_length_eq_zero hln]; rfl)
    clear hln i2
    go_wp2_with fail
    go_ret
    exact ⟨ret_int HE.out.symm, hb2⟩
  · obtain ⟨b9, o9, x, rfl, hc, hx, hx1, hx2⟩ := i2.get h0
    have hc' : w2.cell? ⟨b9, o9, none⟩ = some (.int .i64 x) := by simpa using hc
    have HE : Hid (maxDeg (s, ar, rows) cols = x) := Lib.hid (by rw [HD.out, headOr_get]; exact hx.out)
    have hne : ((n2 : Int) == 0) = false := by rw [beq_eq_false_iff_ne]; omega
    clear hln i2 hc hx
    go_wp2_with fail
    go_ret
    exact ⟨ret_int HE.out.symm, hb2⟩

end Go.Proofs.Ytehcjdbljdpmbaa

/- Plain: what the law of degrees asks. -/
namespace Go.Proofs.Ytehcjdbljdpmbaa
open Go.RowKit
set_option linter.unusedVariables false
set_option linter.unusedSimpArgs false

theorem asc_nodup {l : List (List Int)} (h : Asc l) : l.Nodup :=
  h.imp fun {a b} h9 e => by subst e; rw [cmpRows_self] at h9; omega
theorem cntRow_cons (g r : List Int) (l : List (List Int)) : cntRow g (r :: l) = (if r = g then 1 else 0) + cntRow g l := by
  unfold cntRow
  rw [List.filter_cons]
  by_cases e : r = g <;> simp [e] <;> omega
theorem sum_map_add {α : Type} (f g : α → Int) : ∀ l : List α, (l.map (fun x => f x + g x)).sum = (l.map f).sum + (l.map g).sum
  | [] => by simp
  | x :: t => by simp only [List.map_cons, List.sum_cons, sum_map_add f g t]; omega
theorem sum_ind_no (r : List Int) : ∀ {gs : List (List Int)}, r ∉ gs → (gs.map (fun g => if r = g then (1 : Int) else 0)).sum = 0
  | [], _ => by simp
  | g :: t, h => by
    rw [List.mem_cons, not_or] at h
    simp only [List.map_cons, List.sum_cons, sum_ind_no r h.2, if_neg h.1]; omega
theorem sum_ind (r : List Int) : ∀ {gs : List (List Int)}, gs.Nodup → r ∈ gs → (gs.map (fun g => if r = g then (1 : Int) else 0)).sum = 1
  | [], _, h => by cases h
  | g :: t, hn, h => by
    rw [List.nodup_cons] at hn
    simp only [List.map_cons, List.sum_cons]
    rcases List.mem_cons.1 h with rfl | h
    · rw [sum_ind_no r hn.1, if_pos rfl]; omega
    · have hne : ¬ r = g := fun e => hn.1 (by rw [← e]; exact h)
      rw [sum_ind r hn.2 h, if_neg hne]; omega
/-- Counts of distinct rows, all of them, add up to the number of rows. -/
theorem sum_counts {gs : List (List Int)} (hn : gs.Nodup) : ∀ L : List (List Int), (∀ r ∈ L, r ∈ gs) → (countsOf gs L).sum = L.length
  | [], _ => by
    unfold countsOf
    have h0 : ∀ gs : List (List Int), (gs.map (fun g => (cntRow g [] : Int))).sum = 0 := by
      intro gs
      induction gs with
      | nil => rfl
      | cons x t ih => simp only [List.map_cons, List.sum_cons, ih]; simp [cntRow]
    rw [h0]; rfl
  | r :: L, h => by
    have ih := sum_counts hn L (fun x hx => h x (List.mem_cons_of_mem _ hx))
    have e : countsOf gs (r :: L) = gs.map (fun g => (if r = g then (1 : Int) else 0) + (cntRow g L : Int)) := by
      unfold countsOf
      refine List.map_congr_left fun g _ => ?_
      rw [cntRow_cons]
      split <;> simp
    rw [e, sum_map_add, sum_ind r hn (h r (List.mem_cons_self ..))]
    unfold countsOf at ih
    rw [ih, List.length_cons]; omega
theorem sum_nonneg' : ∀ {xs : List Int}, (∀ x ∈ xs, 1 ≤ x) → 0 ≤ xs.sum
  | [], _ => by simp
  | x :: t, h => by
    have := sum_nonneg' (xs := t) (fun y hy => h y (List.mem_cons_of_mem _ hy))
    have := h x (List.mem_cons_self ..)
    simp only [List.sum_cons]; omega
theorem degFrom_of : ∀ {xs : List Int} {left prev : Int}, xs.Pairwise (· ≥ ·) → (∀ x ∈ xs, 1 ≤ x ∧ x ≤ prev) → xs.sum ≤ left → degFrom left prev xs = true
  | [], _, _, _, _, _ => rfl
  | x :: t, left, prev, hp, hr, hs => by
    rw [List.pairwise_cons] at hp
    simp only [List.sum_cons] at hs
    have h1 := hr x (List.mem_cons_self ..)
    have h2 := sum_nonneg' (xs := t) (fun y hy => (hr y (List.mem_cons_of_mem _ hy)).1)
    have ih := degFrom_of (xs := t) (left := left - x) (prev := x) hp.2 (fun y hy => ⟨(hr y (List.mem_cons_of_mem _ hy)).1, hp.1 y hy⟩) (by omega)
    have hb : betw x 1 left = true := by simp only [betw, Bool.and_eq_true, decide_eq_true_eq]; omega
    rw [deg_on hb h1.2, ih]
theorem downS_perm (l : List Int) : (downS l).Perm l := (List.reverse_perm _).trans (List.mergeSort_perm l _)
theorem downS_desc (l : List Int) : (downS l).Pairwise (· ≥ ·) := by
  unfold downS
  rw [List.pairwise_reverse]
  have := List.pairwise_mergeSort (le := fun x y : Int => decide (x ≤ y)) (by intro a b c; simp; omega) (by intro a b; simp; omega) l
  exact this.imp fun h => by simpa using h
theorem sum_perm {a b : List Int} (h : a.Perm b) : a.sum = b.sum := by
  induction h with
  | nil => rfl
  | cons x _ ih => simp only [List.sum_cons, ih]
  | swap x y l => simp only [List.sum_cons]; omega
  | trans _ _ h1 h2 => exact h1.trans h2
theorem cntRow_pos {g : List Int} {l : List (List Int)} (h : g ∈ l) : 1 ≤ cntRow g l := by
  unfold cntRow
  exact List.length_pos_of_mem (List.mem_filter.2 ⟨h, by simp⟩)
theorem grpN_yes {t : DT} {cs : List Int} (h : colsT t cs = true) : (∀ x ∈ grpN t cs, 1 ≤ x) ∧ (grpN t cs).sum = t.2.2.length := by
  unfold grpN
  rw [if_pos h]
  constructor
  · intro x hx
    simp only [countsOf, List.mem_map] at hx
    obtain ⟨g, hg, rfl⟩ := hx
    have := cntRow_pos (canon_mem.1 hg)
    omega
  · unfold groups
    rw [sum_counts (asc_nodup (canon_asc _)) _ (fun r hr => canon_mem.2 hr), selRows_len]
theorem degSeq_no {t : DT} {cs : List Int} (h : ¬ colsT t cs = true) : degSeq t cs = [] := by
  unfold degSeq grpN
  rw [if_neg h]; simp [downS]
theorem degSeq_len' (t : DT) (cs : List Int) : (degSeq t cs).length = (grpN t cs).length := by unfold degSeq; rw [downS_len]
theorem colsT_len {t : DT} {cs : List Int} (h : colsT t cs = true) : t.2.2.length ≤ 8 := by
  rw [colsT, Bool.and_eq_true] at h
  exact (TOk.of h.2).len
/-- A degree sequence of a table is a degree sequence. -/
theorem degSeq_deg (t : DT) (cs : List Int) : isDeg (degSeq t cs) = true := by
  by_cases h : colsT t cs = true
  · obtain ⟨h1, h2⟩ := grpN_yes h
    have h3 := grpN_facts t cs
    have hl := colsT_len h
    have hp := downS_perm (grpN t cs)
    refine degFrom_of (downS_desc _) (fun x hx => ?_) (by rw [show degSeq t cs = downS (grpN t cs) from rfl, sum_perm hp, h2]; omega)
    have hm := hp.mem_iff.1 hx
    exact ⟨h1 x hm, (h3.2 x hm).2⟩
  · rw [degSeq_no h]; rfl
theorem degSeq_yes {t : DT} {cs : List Int} (h : 0 < (degSeq t cs).length) : colsT t cs = true := by
  by_cases hc : colsT t cs = true
  · exact hc
  · rw [degSeq_no hc] at h; exact absurd h (by simp)
theorem degSeq_total {t : DT} {cs : List Int} (h : 0 < (degSeq t cs).length) : seqTotal (degSeq t cs) = t.2.2.length := by
  unfold seqTotal
  rw [if_pos (degSeq_deg t cs)]
  have := grpN_yes (degSeq_yes h)
  rw [show degSeq t cs = downS (grpN t cs) from rfl, sum_perm (downS_perm _), this.2]
theorem maxDeg_get (t : DT) (cs : List Int) : maxDeg t cs = (degSeq t cs).getD 0 0 := by unfold maxDeg; rw [headOr_get]
theorem head_max {l : List Int} (h : l.Pairwise (· ≥ ·)) {x : Int} (hx : x ∈ l) : x ≤ l.getD 0 0 := by
  cases l with
  | nil => cases hx
  | cons y t =>
    rw [List.pairwise_cons] at h
    rcases List.mem_cons.1 hx with rfl | hx
    · exact Int.le_refl _
    · exact h.1 x hx
theorem cntRow_map (f : List Int → List Int) (g : List Int) : ∀ L : List (List Int), cntRow g L ≤ cntRow (f g) (L.map f)
  | [] => by simp [cntRow]
  | r :: L => by
    have ih := cntRow_map f g L
    rw [List.map_cons, cntRow_cons, cntRow_cons]
    by_cases e : r = g
    · subst e; simp; omega
    · rw [if_neg e]; split <;> omega
theorem colsFrom_take {n p : Int} : ∀ {xs : List Int} (k : Nat), colsFrom n p xs = true → colsFrom n p (xs.take k) = true
  | [], k, h => by simpa using h
  | x :: t, 0, h => rfl
  | x :: t, k + 1, h => by
    simp only [colsFrom, Bool.and_eq_true, List.take_succ_cons] at h ⊢
    exact ⟨h.1, colsFrom_take k h.2⟩
theorem colsT_take {t : DT} {cs : List Int} (k : Nat) (h : colsT t cs = true) : colsT t (cs.take k) = true := by
  rw [colsT, Bool.and_eq_true] at h ⊢
  exact ⟨colsFrom_take k h.1, h.2⟩
theorem colsFrom_rng {n : Int} : ∀ {p : Int} {xs : List Int}, -1 ≤ p → colsFrom n p xs = true → ∀ x ∈ xs, 0 ≤ x ∧ x ≤ n - 1
  | p, [], _, _, x, hx => by cases hx
  | p, v :: t, hp, h, x, hx => by
    simp only [colsFrom, Bool.and_eq_true, decide_eq_true_eq, betw] at h
    rcases List.mem_cons.1 hx with rfl | hx
    · omega
    · exact colsFrom_rng (p := v) (by omega) h.2 x hx
theorem rowsB_len {n : Int} {rows : List (List Int)} (h : rowsB n rows = true) {r : List Int} (hr : r ∈ rows) : (r.length : Int) = n := by
  have h9 := List.all_eq_true.1 h r hr
  simp only [rowB, Bool.and_eq_true, decide_eq_true_eq] at h9
  exact h9.2
theorem sel_take {t : DT} {cs : List Int} (h : colsT t cs = true) (k : Nat) {r : List Int} (hr : r ∈ t.2.2) : sel r (cs.take k) = (sel r cs).take k := by
  rw [colsT, Bool.and_eq_true] at h
  have hv := h.2
  simp only [validT, Bool.and_eq_true] at hv
  have hl := rowsB_len hv.2.2.2.1 hr
  have hok : ∀ xs : List Int, (∀ x ∈ xs, x ∈ cs) → selOk r xs = true := fun xs hx => List.all_eq_true.2 fun c hc => by
    have := colsFrom_rng (by omega) h.1 c (hx c hc)
    simp only [betw, Bool.and_eq_true, decide_eq_true_eq]; omega
  unfold sel
  rw [if_pos (hok cs fun x hx => hx), if_pos (hok _ fun x hx => List.mem_of_mem_take hx)]
  simp [selAt, List.map_take]
theorem selRows_take {t : DT} {cs : List Int} (h : colsT t cs = true) (k : Nat) : selRows t.2.2 (cs.take k) = (selRows t.2.2 cs).map (fun x => x.take k) := by
  unfold selRows
  rw [List.map_map]
  exact List.map_congr_left fun r hr => sel_take h k hr
/-- Fewer columns have no smaller greatest degree. -/
theorem maxDeg_take {t : DT} {cs : List Int} (k : Nat) (h : 0 < (degSeq t cs).length) : maxDeg t cs ≤ maxDeg t (cs.take k) := by
  have hc := degSeq_yes h
  rw [maxDeg_get, maxDeg_get]
  have hm : (degSeq t cs).getD 0 0 ∈ degSeq t cs := getD_mem h
  have hm2 := (downS_perm (grpN t cs)).mem_iff.1 hm
  generalize (degSeq t cs).getD 0 0 = x at hm2 ⊢
  unfold grpN at hm2
  rw [if_pos hc] at hm2
  simp only [countsOf, List.mem_map] at hm2
  obtain ⟨g, hg, rfl⟩ := hm2
  have h1 := cntRow_map (fun x => x.take k) g (selRows t.2.2 cs)
  rw [← selRows_take hc k] at h1
  have h2 : ((cntRow (g.take k) (selRows t.2.2 (cs.take k)) : Nat) : Int) ≤ (degSeq t (cs.take k)).getD 0 0 := by
    refine head_max (downS_desc _) ((downS_perm _).mem_iff.2 ?_)
    unfold grpN
    rw [if_pos (colsT_take k hc)]
    refine List.mem_map.2 ⟨g.take k, canon_mem.2 ?_, rfl⟩
    rw [selRows_take hc k]
    exact List.mem_map.2 ⟨g, canon_mem.1 hg, rfl⟩
  omega
theorem dom_top {a b : List Int} (h : dominates a b = true) {k : Nat} (hk : k ≤ 8) : topDeg b k ≤ topDeg a k := by
  unfold dominates at h
  simp only [Bool.and_eq_true, List.all_eq_true, List.mem_range, decide_eq_true_eq] at h
  cases k with
  | zero => simp [topDeg]
  | succ i => have := h.2 i (by omega); simpa using this
theorem top_all (a : List Int) : topDeg a 8 = seqTotal a := by
  unfold topDeg seqTotal
  by_cases h : isDeg a = true
  · rw [if_pos h, if_pos h, show Int.toNat 8 = 8 from rfl, List.take_of_length_le (isDeg_len h)]
  · rw [if_neg h, if_neg h]

end Go.Proofs.Ytehcjdbljdpmbaa

/- Contracts: the reference's draws (6): degree sequences. -/
namespace Go.Proofs.Ytehcjdbljdpmbaa
open Go.RowKit
set_option linter.unusedVariables false
set_option linter.unusedSimpArgs false
set_option synthInstance.maxSize 2000
set_option synthInstance.maxHeartbeats 400000

theorem Bytes.at {w w' : World} {n : Nat} {a : Option Addr} (h : Bytes w w.heap.size a n) (hb : Below w.heap.size w w') : Bytes w' w'.heap.size a n :=
  ⟨h.small, fun i hi => by
    obtain ⟨b, off, v, e1, e2, e3, e4⟩ := h.cell i hi
    have := hb.size
    exact ⟨b, off, v, e1, by omega, (hb.cell (p := ⟨b, off + i, none⟩) e2).trans e3, e4⟩⟩
theorem rI_open9 {w : World} {b : Option Addr} {n c : Nat} {xs : List Int} (h : rI.rep w [.slice b n c] xs) : n = xs.length ∧ n ≤ c ∧ c ≤ 9223372036854775807 ∧ Ints w b n xs := by
  obtain ⟨a, cap, e, h1, h2, h3⟩ := rI_open h
  injection e with e1 e2 e3
  subst e1 e2 e3
  exact ⟨rfl, h1, h2, h3⟩
theorem own_some {lo hi : Nat} {w : World} {b : Option Addr} {n c : Nat} {xs : List Int} (h : Own oI lo hi w [.slice b n c] xs) (hn : 0 < n) : ∃ g, b = some ⟨g, 0, none⟩ := by
  obtain ⟨fp, h1, _, _⟩ := h
  obtain ⟨a, cap, e, ho, _⟩ := oI_own h1
  simp only [List.cons.injEq, and_true, Value.slice.injEq] at e
  obtain ⟨rfl, rfl, rfl⟩ := e
  rcases ho.row.2 with ⟨hv, _⟩ | ⟨g, cap, cur, hv, _⟩
  · simp only [Value.slice.injEq] at hv
    omega
  · simp only [Value.slice.injEq] at hv
    exact ⟨g, hv.1⟩
theorem ints_lit (W : World) (xs : List Int) (hx : ∀ x ∈ xs, I64 x) (hl : xs.length ≤ 1000) : Ints (W.alloc (.cells (xs.map (fun x => Value.int .i64 x)).toArray 3)) (some ⟨W.heap.size, 0, none⟩) xs.length xs :=
  ⟨rfl, by omega, fun i hi => by
    refine ⟨W.heap.size, 0, rfl, ?_⟩
    rw [Nat.zero_add]
    have h := fresh_cells W (xs.map (fun x => Value.int .i64 x)) 3 i (.int .i64 (xs.getD i 0)) (by rw [List.getElem?_map, List.getD_eq_getElem?_getD, List.getElem?_eq_getElem hi]; rfl)
    rw [add_zero_addr] at h
    exact h, hx⟩
theorem i64_lits {xs : List Int} (h : (xs.all fun x => decide (-9223372036854775808 ≤ x) && decide (x ≤ 9223372036854775807)) = true) : ∀ x ∈ xs, I64 x := fun x hx => by
  have := List.all_eq_true.1 h x hx
  simp only [Bool.and_eq_true, decide_eq_true_eq] at this
  exact this

set_option maxRecDepth 100000 in
set_option maxHeartbeats 2000000 in
theorem drawDegSeq_any (w : World) (ba : Option Addr) (bn bc : Nat) (hn : bn ≤ 2000000) (h : Bytes w w.heap.size ba bn) :
    Calls Try.prog 16 #[.slice ba bn bc] w fun e w' => ∃ (t : DT) (cols : List Int) (ub : Option Addr) (un uc : Nat) (cb : Option Addr) (cn cc : Nat), e = .returned (.tuple #[.agg #[.string t.1, .int .i64 t.2.1, .slice ub un uc], .slice cb cn cc]) ∧ DrawnT w.heap.size w'.heap.size w' [.string t.1, .int .i64 t.2.1, .slice ub un uc] t ∧ Own oI w.heap.size w'.heap.size w' [.slice cb cn cc] cols ∧ cols.length ≤ 4 ∧ Below w.heap.size w w' := by
  have hb0 : Below w.heap.size w w := Below.refl _ _
  go_enter Try.func16, Try.ntmps16
  obtain ⟨w1, hw1⟩ : ∃ W, W = w.alloc (.cells #[.string (ByteArray.mk #[]), .int .i64 0, .slice none 0 0] 34) := ⟨_, rfl⟩
  have z1 : Below w.heap.size w w1 := by rw [hw1]; exact (Below.refl _ _).alloc (Nat.le_refl _) _
  have s1 : w1.heap.size = w.heap.size + 1 := by rw [hw1]; simp
  have hb1 := on hb0 z1
  have R_0 : w1.cell? ⟨w.heap.size, 0, none⟩ = some (.string (ByteArray.mk #[])) := by rw [hw1]; exact box_cell (Below.refl _ _) rfl
  have R_1 : w1.cell? ⟨w.heap.size, 1, none⟩ = some (.int .i64 0) := by rw [hw1]; exact box_cell (Below.refl _ _) rfl
  have R_2 : w1.cell? ⟨w.heap.size, 2, none⟩ = some (.slice none 0 0) := by rw [hw1]; exact box_cell (Below.refl _ _) rfl
  have R_f0 : w1.frozen? ⟨w.heap.size, 0, none⟩ = false := by rw [hw1]; exact box_frozen (Below.refl _ _)
  have R_f1 : w1.frozen? ⟨w.heap.size, 1, none⟩ = false := by rw [hw1]; exact box_frozen (Below.refl _ _)
  have R_f2 : w1.frozen? ⟨w.heap.size, 2, none⟩ = false := by rw [hw1]; exact box_frozen (Below.refl _ _)
  have raw1_R_0 := R_0
  have raw1_R_1 := R_1
  have raw1_R_2 := R_2
  have raw1_R_f0 := R_f0
  have raw1_R_f1 := R_f1
  have raw1_R_f2 := R_f2
  rw [hw1] at raw1_R_0 raw1_R_1 raw1_R_2 raw1_R_f0 raw1_R_f1 raw1_R_f2
  have HBY := Lib.hid (h.at hb1)
  clear h
  go_wp2_with fail
  rw [← hw1]
  clear hw1
  clear raw1_R_0 raw1_R_1 raw1_R_2 raw1_R_f0 raw1_R_f1 raw1_R_f2
  obtain ⟨lo4, hlo4⟩ : ∃ q, q = w1.heap.size := ⟨_, rfl⟩
  refine (l10Pair_any _ ba bn bc hn HBY.out).mono ?_
  rintro e w2 ⟨t, cols, ub, un, uc, kb, kn, kc, rfl, hD, oC, hcl, z2⟩
  have s3 := z2.size
  have hb3 := on hb1 z2
  replace R_0 := (z2.cell (p := ⟨w.heap.size, 0, none⟩) (by simp only []; omega)).trans R_0
  replace R_1 := (z2.cell (p := ⟨w.heap.size, 1, none⟩) (by simp only []; omega)).trans R_1
  replace R_2 := (z2.cell (p := ⟨w.heap.size, 2, none⟩) (by simp only []; omega)).trans R_2
  replace R_f0 := (z2.frozen (p := ⟨w.heap.size, 0, none⟩) (by simp only []; omega)).trans R_f0
  replace R_f1 := (z2.frozen (p := ⟨w.heap.size, 1, none⟩) (by simp only []; omega)).trans R_f1
  replace R_f2 := (z2.frozen (p := ⟨w.heap.size, 2, none⟩) (by simp only []; omega)).trans R_f2
  clear HBY
  rw [← hlo4] at hD oC
  obtain ⟨hi5, hhi5⟩ : ∃ q, q = w2.heap.size := ⟨_, rfl⟩
  rw [← hhi5] at hD oC
  obtain ⟨w4, hw4⟩ : ∃ W, W = w2.alloc (.cells #[.string t.1, .int .i64 t.2.1, .slice ub un uc] 34) := ⟨_, rfl⟩
  have z4 : Below w2.heap.size w2 w4 := by rw [hw4]; exact (Below.refl _ _).alloc (Nat.le_refl _) _
  have s4 : w4.heap.size = w2.heap.size + 1 := by rw [hw4]; simp
  have hb4 := on hb3 z4
  have old4_R_0 := R_0
  have old4_R_1 := R_1
  have old4_R_2 := R_2
  replace R_0 := (z4.cell (p := ⟨w.heap.size, 0, none⟩) (by simp only []; omega)).trans R_0
  replace R_1 := (z4.cell (p := ⟨w.heap.size, 1, none⟩) (by simp only []; omega)).trans R_1
  replace R_2 := (z4.cell (p := ⟨w.heap.size, 2, none⟩) (by simp only []; omega)).trans R_2
  replace R_f0 := (z4.frozen (p := ⟨w.heap.size, 0, none⟩) (by simp only []; omega)).trans R_f0
  replace R_f1 := (z4.frozen (p := ⟨w.heap.size, 1, none⟩) (by simp only []; omega)).trans R_f1
  replace R_f2 := (z4.frozen (p := ⟨w.heap.size, 2, none⟩) (by simp only []; omega)).trans R_f2
  replace hD := hD.below z4 (by omega)
  replace oC := oC.below z4 (by omega)
  have X_0 : w4.cell? ⟨w2.heap.size, 0, none⟩ = some (.string t.1) := by rw [hw4]; exact box_cell (Below.refl _ _) rfl
  have X_1 : w4.cell? ⟨w2.heap.size, 1, none⟩ = some (.int .i64 t.2.1) := by rw [hw4]; exact box_cell (Below.refl _ _) rfl
  have X_2 : w4.cell? ⟨w2.heap.size, 2, none⟩ = some (.slice ub un uc) := by rw [hw4]; exact box_cell (Below.refl _ _) rfl
  have raw4_R_0 := R_0
  have raw4_R_1 := R_1
  have raw4_R_2 := R_2
  have raw4_R_f0 := R_f0
  have raw4_R_f1 := R_f1
  have raw4_R_f2 := R_f2
  have raw4_X_0 := X_0
  have raw4_X_1 := X_1
  have raw4_X_2 := X_2
  rw [hw4] at raw4_R_0 raw4_R_1 raw4_R_2 raw4_R_f0 raw4_R_f1 raw4_R_f2 raw4_X_0 raw4_X_1 raw4_X_2
  go_wp2_with fail
  rw [← hw4]
  clear hw4
  clear old4_R_0 old4_R_1 old4_R_2 raw4_R_0 raw4_R_1 raw4_R_2 raw4_R_f0 raw4_R_f1 raw4_R_f2 raw4_X_0 raw4_X_1 raw4_X_2
  refine bodyPost_ret (v := .tuple #[.agg #[.string t.1, .int .i64 t.2.1, .slice ub un uc], .slice kb kn kc]) (by simp [results, Try.results16, go_sem, R_0, R_1, R_2, R_f0, R_f1, R_f2]) rfl ⟨t, cols, ub, un, uc, kb, kn, kc, rfl, ?_, ?_, hcl, ?_⟩
  · refine DrawnT.mono (lo := lo4) (hi := hi5) ?_ (by omega) (by simp [World.setCell]; omega)
    repeat (refine DrawnT.off ?_ rfl (by simp only []; omega))
    exact hD
  · refine Own.mono (lo := lo4) (hi := hi5) ?_ (by omega) (by simp [World.setCell]; omega)
    repeat (refine own_off ?_ rfl (by simp only []; omega))
    exact oC
  · refine hb4.trans ?_
    repeat (refine Below.setCell ?_ (by simp only []; omega) _)
    exact Below.refl _ _

set_option maxRecDepth 100000 in
set_option maxHeartbeats 2000000 in
theorem l10Seq_any (w : World) (cb : Nat) (ba : Option Addr) (bn bc : Nat) (HC : Cur w cb ba bn bc) (hcb : cb < w.heap.size) :
    Calls Try.prog 83 #[.pointer (some ⟨cb, 0, none⟩)] w fun e w' => ∃ b n c xs, e = .returned (.slice b n c) ∧ Own oI w.heap.size w'.heap.size w' [.slice b n c] xs ∧ xs.length ≤ 9 ∧ Cur w' cb ba bn bc ∧ Turn cb (cb + 1) w w' := by
  have ht0 : Turn cb (cb + 1) w w := (Kept.refl cb (cb + 1) w).turn
  go_enter Try.func83, Try.ntmps83
  have h3 := ints_lit w [2, 3, 5] (i64_lits (by decide)) (by simp)
  obtain ⟨w1, hw1⟩ : ∃ W, W = w.alloc (.cells #[.int .i64 2, .int .i64 3, .int .i64 5] 3) := ⟨_, rfl⟩
  have z1 : Below w.heap.size w w1 := by rw [hw1]; exact (Below.refl _ _).alloc (Nat.le_refl _) _
  have s1 : w1.heap.size = w.heap.size + 1 := by rw [hw1]; simp
  have hb1 := turn_on' ht0 (z1.mono (by omega))
  replace HC := HC.below' z1 (by omega)
  have L_0 : w1.cell? ⟨w.heap.size, 0, none⟩ = some (.int .i64 2) := by rw [hw1]; exact box_cell (Below.refl _ _) rfl
  have L_1 : w1.cell? ⟨w.heap.size, 1, none⟩ = some (.int .i64 3) := by rw [hw1]; exact box_cell (Below.refl _ _) rfl
  have L_2 : w1.cell? ⟨w.heap.size, 2, none⟩ = some (.int .i64 5) := by rw [hw1]; exact box_cell (Below.refl _ _) rfl
  have raw1_L_0 := L_0
  have raw1_L_1 := L_1
  have raw1_L_2 := L_2
  rw [hw1] at raw1_L_0 raw1_L_1 raw1_L_2
  replace h3 : Ints w1 (some ⟨w.heap.size, 0, none⟩) 3 [2, 3, 5] := by rw [hw1]; exact h3
  clear L_0 L_1 L_2
  go_wp2_with fail
  rw [← hw1]
  clear hw1
  clear raw1_L_0 raw1_L_1 raw1_L_2
  have HC_o := HC
  clear HC
  refine (l1PickInt_any _ cb ba bn bc _ 3 3 _ (by omega) (by omega) h3 (by omega) HC_o).mono ?_
  rintro e w2 ⟨k0, rfl, hk0, HC, z2⟩
  clear HC_o
  have s3 := Nat.le_of_eq z2.size
  have s3' := Nat.le_of_eq z2.size.symm
  replace z2 := z2.turn
  have hb3 := hb1.trans z2
  clear h3
  obtain ⟨V, rfl, hV⟩ : ∃ V : Nat, k0 = (V : Int) ∧ V ≤ 100 := ⟨k0.toNat, by
    simp only [List.mem_cons, List.not_mem_nil, or_false] at hk0
    rcases hk0 with rfl | rfl | rfl <;> decide, by
    simp only [List.mem_cons, List.not_mem_nil, or_false] at hk0
    rcases hk0 with rfl | rfl | rfl <;> decide⟩
  clear hk0
  go_wp2_with fail
  obtain ⟨lo4, hlo4⟩ : ∃ q, q = w2.heap.size := ⟨_, rfl⟩
  have HC_o := HC
  clear HC
  refine (l4Tab_any _ cb ba bn bc (ByteArray.mk #[114]) 2 8 V (by omega) (by omega) (by omega) HC_o (by omega)).mono ?_
  rintro e w4 ⟨b, n, c, rows, rfl, ho, hrl, hrr, HC, z4⟩
  clear HC_o
  have s5 := z4.size
  have hb5 := hb3.trans z4
  rw [← hlo4] at ho
  obtain ⟨hi5, hhi5⟩ : ∃ q, q = w4.heap.size := ⟨_, rfl⟩
  rw [← hhi5] at ho
  have hlh : cb + 1 ≤ lo4 := by omega
  have hlh2 : lo4 ≤ hi5 := by omega
  clear hrr
  obtain ⟨w6, hw6⟩ : ∃ W, W = w4.alloc (.cells #[.string (ByteArray.mk #[114]), .int .i64 2, .slice b n c] 34) := ⟨_, rfl⟩
  have z6 : Below w4.heap.size w4 w6 := by rw [hw6]; exact (Below.refl _ _).alloc (Nat.le_refl _) _
  have s6 : w6.heap.size = w4.heap.size + 1 := by rw [hw6]; simp
  have hb6 := turn_on' hb5 (z6.mono (by omega))
  replace HC := HC.below' z6 (by omega)
  replace ho := ho.below z6 (by omega)
  have X_0 : w6.cell? ⟨w4.heap.size, 0, none⟩ = some (.string (ByteArray.mk #[114])) := by rw [hw6]; exact box_cell (Below.refl _ _) rfl
  have X_1 : w6.cell? ⟨w4.heap.size, 1, none⟩ = some (.int .i64 2) := by rw [hw6]; exact box_cell (Below.refl _ _) rfl
  have X_2 : w6.cell? ⟨w4.heap.size, 2, none⟩ = some (.slice b n c) := by rw [hw6]; exact box_cell (Below.refl _ _) rfl
  have raw6_X_0 := X_0
  have raw6_X_1 := X_1
  have raw6_X_2 := X_2
  rw [hw6] at raw6_X_0 raw6_X_1 raw6_X_2
  go_wp2_with fail
  rw [← hw6]
  clear hw6
  clear raw6_X_0 raw6_X_1 raw6_X_2
  have HOT := Lib.hid (show Own oT lo4 hi5 w6 [.string (ByteArray.mk #[114]), .int .i64 2, .slice b n c] (ByteArray.mk #[114], 2, rows) from oT_mk (x := (ByteArray.mk #[114], 2, rows)) (show (ByteArray.mk #[114]).size ≤ 9223372036854775807 by decide) (show I64 2 by constructor <;> decide) ho (Nat.le_refl _) (Nat.le_refl _))
  clear ho
  have hdr : Below w6.heap.size w6 w6.drew := (Below.refl _ _).drew
  refine wp_region_noPanic ?_
  refine wp_region_held_drew (S := (fun W => W.cell? ⟨w4.heap.size, 0, none⟩ = some (.string (ByteArray.mk #[114])) ∧ W.cell? ⟨w4.heap.size, 1, none⟩ = some (.int .i64 2) ∧ W.cell? ⟨w4.heap.size, 2, none⟩ = some (.slice b n c))) (by kernel_rfl) ?hS7 (fun hHeld => ?_)
  case hS7 => exact ⟨X_0, X_1, X_2⟩
  refine wpAnyH_take (i := 0) (v := ?v0_8) rfl (by kernel_rfl) (by kernel_rfl) (by kernel_rfl) (fun _ _ _ h => h) (Or.inl ⟨by rfl, ?hy0_8⟩) (by assumption) ?rest0_8
  case hy0_8 => intro w hSw; (try dsimp only at hSw); go_simp; (try with_reducible rfl)
  try simp only [Act.put, List.getElem_toArray, List.getElem_cons_succ, List.getElem_cons_zero, List.setIfInBounds_toArray, List.set_cons_zero, List.set_cons_succ]
  refine wpAnyH_take (i := 1) (v := ?v1_9) rfl (by kernel_rfl) (by kernel_rfl) (by kernel_rfl) (fun _ _ _ h => h) (Or.inl ⟨by rfl, ?hy1_9⟩) (by assumption) ?rest1_9
  case hy1_9 => intro w hSw; (try dsimp only at hSw); go_simp; (try with_reducible rfl)
  try simp only [Act.put, List.getElem_toArray, List.getElem_cons_succ, List.getElem_cons_zero, List.setIfInBounds_toArray, List.set_cons_zero, List.set_cons_succ]
  refine wpAnyH_ready (rs := [2]) (by kernel_rfl) (by simp) ?_
  refine AllReadyH.cons rfl (fun K hK => ?_) AllReadyH.nil
  go_simp; (refine (l1Below_any _ cb ba bn bc 2 (by omega) (HC.below' hdr (by omega))).mono ?_); rintro e wA ⟨x, rfl, hx0, hx1, hx2, HC2, kA⟩; have tA : Turn cb (cb + 1) w6 wA := (turn_below hdr (Nat.le_refl _)).trans kA.turn; have sA := tA.size; have hbA := hb6.trans tA; have HOA := Lib.hid (HOT.out.turn tA (by omega)); replace X_0 := (tA.cell (p := ⟨w4.heap.size, 0, none⟩) (by simp only []; omega) (by simp only []; omega)).trans X_0; replace X_1 := (tA.cell (p := ⟨w4.heap.size, 1, none⟩) (by simp only []; omega) (by simp only []; omega)).trans X_1; replace X_2 := (tA.cell (p := ⟨w4.heap.size, 2, none⟩) (by simp only []; omega) (by simp only []; omega)).trans X_2; have hx9 : x ≤ 1 := by { have := hx1 (by omega); omega }; clear hx1 hx2 kA tA HOT HC
  refine hK.out _ _ ?_ (fun hHeld => ?_)
  · exact ⟨X_0, X_1, X_2⟩
  clear hK K
  try simp only [Act.put, List.setIfInBounds_toArray, List.set_cons_zero, List.set_cons_succ]
  refine wpAnyH_ready (rs := [3]) (by kernel_rfl) (by simp) ?_
  refine AllReadyH.cons rfl (fun K hK => ?_) AllReadyH.nil
  go_simp; have oL := own_lit1 (W := wA) (a := x) ⟨by omega, by omega⟩; obtain ⟨wB, hwB⟩ : ∃ W, W = wA.alloc (.cells #[.int .i64 x] 3) := ⟨_, rfl⟩; rw [← hwB] at oL ⊢; have zB : Below wA.heap.size wA wB := by { rw [hwB]; exact (Below.refl _ _).alloc (Nat.le_refl _) _ }; have sB : wB.heap.size = wA.heap.size + 1 := by { rw [hwB]; simp }; clear hwB; have hbB := turn_on' hbA (zB.mono (by omega)); replace HC2 := HC2.below' zB (by omega); have HOB := Lib.hid (HOA.out.below zB (by omega)); replace X_0 := (zB.cell (p := ⟨w4.heap.size, 0, none⟩) (by simp only []; omega)).trans X_0; replace X_1 := (zB.cell (p := ⟨w4.heap.size, 1, none⟩) (by simp only []; omega)).trans X_1; replace X_2 := (zB.cell (p := ⟨w4.heap.size, 2, none⟩) (by simp only []; omega)).trans X_2; clear HOA
  refine hK.out _ _ ?_ (fun hHeld => ?_)
  · exact ⟨X_0, X_1, X_2⟩
  clear hK K
  try simp only [Act.put, List.setIfInBounds_toArray, List.set_cons_zero, List.set_cons_succ]
  refine wpAnyH_ready (rs := [4]) (by kernel_rfl) (by simp) ?_
  refine AllReadyH.cons rfl (fun K hK => ?_) AllReadyH.nil
  go_simp; (refine (degSeq_spec _ _ (ByteArray.mk #[114], 2, rows) [x] _ (HOB.out.rd reads_T) (oL.rd reads_I)).mono ?_); rintro e wD ⟨db, dn, dc, rfl, oD, zD⟩; have sD := zD.size; have hbD := turn_on' hbB (zD.mono (by omega)); replace HC2 := HC2.below' zD (by omega); replace X_0 := (zD.cell (p := ⟨w4.heap.size, 0, none⟩) (by simp only []; omega)).trans X_0; replace X_1 := (zD.cell (p := ⟨w4.heap.size, 1, none⟩) (by simp only []; omega)).trans X_1; replace X_2 := (zD.cell (p := ⟨w4.heap.size, 2, none⟩) (by simp only []; omega)).trans X_2; clear HOB oL zD zB
  refine hK.out _ _ ?_ (fun hHeld => ?_)
  · exact ⟨X_0, X_1, X_2⟩
  clear hK K
  try simp only [Act.put, List.setIfInBounds_toArray, List.set_cons_zero, List.set_cons_succ]
  refine wpAnyH_take (i := 5) (v := ?v5_10) rfl (by kernel_rfl) (by kernel_rfl) (by kernel_rfl) (fun _ _ _ h => h) (Or.inl ⟨by rfl, ?hy5_10⟩) (by assumption) ?rest5_10
  case hy5_10 => intro w hSw; (try dsimp only at hSw); go_simp; (try with_reducible rfl)
  try simp only [Act.put, List.getElem_toArray, List.getElem_cons_succ, List.getElem_cons_zero, List.setIfInBounds_toArray, List.set_cons_zero, List.set_cons_succ]
  refine wpAnyH_done (by kernel_rfl) ?_ _
  refine NoPanic.normal ?_
  have hdl := degSeq_len (ByteArray.mk #[114], 2, rows) [x]
  obtain ⟨ds, hds⟩ : ∃ q, degSeq (ByteArray.mk #[114], 2, rows) [x] = q := ⟨_, rfl⟩
  rw [hds] at oD hdl
  clear hds hhi5 hlo4 hrl hdr X_0 X_1 X_2
  obtain ⟨lo6, hlo6⟩ : ∃ q, q = wB.heap.size := ⟨_, rfl⟩
  rw [← hlo6] at oD
  have hl6 : w.heap.size ≤ lo6 ∧ cb + 1 ≤ lo6 := by omega
  have hl7 : lo6 ≤ wD.heap.size := by omega
  clear sD sB sA hlo6
  obtain ⟨hi6, hhi6⟩ : ∃ q, q = wD.heap.size := ⟨_, rfl⟩
  rw [← hhi6] at oD
  have hl8 : lo6 ≤ hi6 := by omega
  go_wp2_with fail
  have HC2_o := HC2
  clear HC2
  refine (l1Once_any _ cb ba bn bc 10 (by omega) HC2_o).mono ?_
  rintro e w11 ⟨t, rfl, HC2, z11⟩
  clear HC2_o
  have s12 := Nat.le_of_eq z11.size
  have s12' := Nat.le_of_eq z11.size.symm
  replace z11 := z11.turn
  have hb12 := hbD.trans z11
  replace oD := oD.turn z11 (by omega)
  cases t with
  | false =>
    have HO := Lib.hid (oD.mono (show w.heap.size ≤ lo6 by omega) (show hi6 ≤ w11.heap.size by omega))
    clear oD
    go_wp2_with fail
    go_ret
    exact ⟨_, _, _, ds, rfl, HO.out, by omega, HC2, hb12⟩
  | true =>
    have h5 := ints_lit w11 [0, 1, 9, -1, 9223372036854775807] (i64_lits (by decide)) (by simp)
    obtain ⟨w13, hw13⟩ : ∃ W, W = w11.alloc (.cells #[.int .i64 0, .int .i64 1, .int .i64 9, .int .i64 (-1), .int .i64 9223372036854775807] 3) := ⟨_, rfl⟩
    have z13 : Below w11.heap.size w11 w13 := by rw [hw13]; exact (Below.refl _ _).alloc (Nat.le_refl _) _
    have s13 : w13.heap.size = w11.heap.size + 1 := by rw [hw13]; simp
    have hb13 := turn_on' hb12 (z13.mono (by omega))
    replace HC2 := HC2.below' z13 (by omega)
    replace oD := oD.below z13 (by omega)
    have L_0 : w13.cell? ⟨w11.heap.size, 0, none⟩ = some (.int .i64 0) := by rw [hw13]; exact box_cell (Below.refl _ _) rfl
    have L_1 : w13.cell? ⟨w11.heap.size, 1, none⟩ = some (.int .i64 1) := by rw [hw13]; exact box_cell (Below.refl _ _) rfl
    have L_2 : w13.cell? ⟨w11.heap.size, 2, none⟩ = some (.int .i64 9) := by rw [hw13]; exact box_cell (Below.refl _ _) rfl
    have L_3 : w13.cell? ⟨w11.heap.size, 3, none⟩ = some (.int .i64 (-1)) := by rw [hw13]; exact box_cell (Below.refl _ _) rfl
    have L_4 : w13.cell? ⟨w11.heap.size, 4, none⟩ = some (.int .i64 9223372036854775807) := by rw [hw13]; exact box_cell (Below.refl _ _) rfl
    have raw13_L_0 := L_0
    have raw13_L_1 := L_1
    have raw13_L_2 := L_2
    have raw13_L_3 := L_3
    have raw13_L_4 := L_4
    rw [hw13] at raw13_L_0 raw13_L_1 raw13_L_2 raw13_L_3 raw13_L_4
    replace h5 : Ints w13 (some ⟨w11.heap.size, 0, none⟩) 5 [0, 1, 9, -1, 9223372036854775807] := by rw [hw13]; exact h5
    clear L_0 L_1 L_2 L_3 L_4
    go_wp2_with fail
    rw [← hw13]
    clear hw13
    clear raw13_L_0 raw13_L_1 raw13_L_2 raw13_L_3 raw13_L_4
    have HC2_o := HC2
    clear HC2
    refine (l1PickInt_any _ cb ba bn bc _ 5 5 _ (by omega) (by omega) h5 (by omega) HC2_o).mono ?_
    rintro e w14 ⟨y, rfl, hy, HC2, z14⟩
    clear HC2_o
    have s15 := Nat.le_of_eq z14.size
    have s15' := Nat.le_of_eq z14.size.symm
    replace z14 := z14.turn
    have hb15 := hb13.trans z14
    replace oD := oD.turn z14 (by omega)
    have hy64 : I64 y := i64_lits (by decide) y hy
    clear h5 hy
    obtain ⟨na, nn, nc, wn, hrn, on_, hbn, hzn⟩ := own_num 24 oD (r := y) hy64 (by omega) (by omega) (by omega) rfl
    have HCN := Lib.hid (HC2.below' hbn (by omega))
    have TN := Lib.hid (turn_on' hb15 (hbn.mono (by omega)))
    have HO := Lib.hid (on_.mono (show w.heap.size ≤ lo6 by omega) (Nat.le_refl _))
    clear on_ oD hbn
    go_wp2_with ((at_builtin; refine wpList_app_run hrn rfl rfl rfl rfl rfl ?_))
    go_ret
    exact ⟨_, _, _, ds ++ [y], rfl, HO.out, by rw [List.length_append]; simp; omega, HCN.out, TN.out⟩

set_option maxRecDepth 100000 in
set_option maxHeartbeats 2000000 in
theorem l11Pair_any (w : World) (ba : Option Addr) (bn bc : Nat) (hn : bn ≤ 2000000) (h : Bytes w w.heap.size ba bn) :
    Calls Try.prog 48 #[.slice ba bn bc] w fun e w' => ∃ b n c xs b2 n2 c2 ys, e = .returned (.tuple #[.slice b n c, .slice b2 n2 c2]) ∧ Own oI w.heap.size w'.heap.size w' [.slice b n c] xs ∧ Own oI w.heap.size w'.heap.size w' [.slice b2 n2 c2] ys ∧ (xs.length ≤ 9 ∧ ys.length ≤ 9) ∧ Below w.heap.size w w' := by
  have hb0 : Below w.heap.size w w := Below.refl _ _
  go_enter Try.func48, Try.ntmps48
  go_wp2_with fail
  refine (l1New_any _ ba bn bc hn h).mono ?_
  rintro e w1 ⟨cb, rfl, HC, z1, hcb1, hcb2⟩
  have s2 := z1.size
  have hb2 := on hb0 z1
  clear h
  go_wp2_with fail
  have HC_o := HC
  clear HC
  refine (l10Seq_any _ cb ba bn bc HC_o (by omega)).mono ?_
  rintro e w3 ⟨b, n, c, xs, rfl, o1, hx1, HC, z3⟩
  clear HC_o
  have s4 := z3.size
  have hb4 := hb2.trans ((z3.below (by omega)).mono (by omega))
  obtain ⟨lo1, hlo1⟩ : ∃ q, q = w1.heap.size := ⟨_, rfl⟩
  rw [← hlo1] at o1
  go_wp2_with fail
  have HC_o := HC
  clear HC
  refine (l10Seq_any _ cb ba bn bc HC_o (by omega)).mono ?_
  rintro e w5 ⟨b2, n2, c2, ys, rfl, o2, hx2, HC, z5⟩
  clear HC_o
  have s6 := z5.size
  have hb6 := hb4.trans ((z5.below (by omega)).mono (by omega))
  replace o1 := o1.turn z5 (by omega)
  have HO1 := Lib.hid (o1.mono (show w.heap.size ≤ lo1 by omega) (show _ ≤ w5.heap.size by omega))
  have HO2 := Lib.hid (o2.mono (show w.heap.size ≤ _ by omega) (Nat.le_refl _))
  clear o1 o2
  go_wp2_with fail
  refine bodyPost_ret (v := .tuple #[.slice b n c, .slice b2 n2 c2]) (by simp [results, Try.results48, go_sem]) rfl ⟨b, n, c, xs, b2, n2, c2, ys, rfl, HO1.out, HO2.out, ⟨hx1, hx2⟩, hb6⟩

theorem drawPair_any (w : World) (ba : Option Addr) (bn bc : Nat) (hn : bn ≤ 2000000) (h : Bytes w w.heap.size ba bn) :
    Calls Try.prog 7 #[.slice ba bn bc] w fun e w' => ∃ b n c xs b2 n2 c2 ys, e = .returned (.tuple #[.slice b n c, .slice b2 n2 c2]) ∧ Own oI w.heap.size w'.heap.size w' [.slice b n c] xs ∧ Own oI w.heap.size w'.heap.size w' [.slice b2 n2 c2] ys ∧ (xs.length ≤ 9 ∧ ys.length ≤ 9) ∧ Below w.heap.size w w' := by
  have hb0 : Below w.heap.size w w := Below.refl _ _
  go_enter Try.func7, Try.ntmps7
  go_wp2_with fail
  refine (l11Pair_any _ ba bn bc hn h).mono ?_
  rintro e w1 ⟨b, n, c, xs, b2, n2, c2, ys, rfl, o1, o2, hx, z1⟩
  have s2 := z1.size
  have hb2 := on hb0 z1
  have HO1 := Lib.hid o1
  have HO2 := Lib.hid o2
  clear o1 o2 h
  go_wp2_with fail
  refine bodyPost_ret (v := .tuple #[.slice b n c, .slice b2 n2 c2]) (by simp [results, Try.results48, go_sem]) rfl ⟨b, n, c, xs, b2, n2, c2, ys, rfl, HO1.out, HO2.out, hx, hb2⟩

set_option maxRecDepth 100000 in
set_option maxHeartbeats 2000000 in
theorem drawDom_any (w : World) (ba : Option Addr) (bn bc : Nat) (hn : bn ≤ 2000000) (h : Bytes w w.heap.size ba bn) :
    Calls Try.prog 45 #[.slice ba bn bc] w fun e w' => ∃ b n c xs b2 n2 c2 ys, e = .returned (.tuple #[.slice b n c, .slice b2 n2 c2]) ∧ Own oI w.heap.size w'.heap.size w' [.slice b n c] xs ∧ Own oI w.heap.size w'.heap.size w' [.slice b2 n2 c2] ys ∧ (xs.length ≤ 9 ∧ ys.length ≤ 9) ∧ Below w.heap.size w w' := by
  have hb0 : Below w.heap.size w w := Below.refl _ _
  go_enter Try.func45, Try.ntmps45
  go_wp2_with fail
  refine (l1New_any _ ba bn bc hn h).mono ?_
  rintro e w1 ⟨cb, rfl, HC, z1, hcb1, hcb2⟩
  have s2 := z1.size
  have hb2 := on hb0 z1
  clear h
  go_wp2_with fail
  have HC_o := HC
  clear HC
  refine (l10Seq_any _ cb ba bn bc HC_o (by omega)).mono ?_
  rintro e w3 ⟨b, n, c, xs, rfl, o1, hx1, HC, z3⟩
  clear HC_o
  have s4 := z3.size
  have hb4 := hb2.trans ((z3.below (by omega)).mono (by omega))
  obtain ⟨lo1, hlo1⟩ : ∃ q, q = w1.heap.size := ⟨_, rfl⟩
  rw [← hlo1] at o1
  obtain ⟨hnl, hnc, hcm, i1⟩ := rI_open9 (o1.rd reads_I)
  subst hnl
  by_cases hlt : 1 < xs.length
  · have hgt : (xs.length : Int) > 1 := by omega
    obtain ⟨g, rfl⟩ := own_some o1 (by omega)
    go_wp2_with fail
    have HC_o := HC
    clear HC
    refine (l1Once_any _ cb ba bn bc 3 (by omega) HC_o).mono ?_
    rintro e w5 ⟨t, rfl, HC, z5⟩
    clear HC_o
    have s6 := Nat.le_of_eq z5.size
    have s6' := Nat.le_of_eq z5.size.symm
    replace z5 := z5.turn
    have hb6 := hb4.trans ((z5.below (by omega)).mono (by omega))
    replace o1 := o1.turn z5 (by omega)
    cases t with
    | true =>
      have hc1 : ¬ c = 1 := by omega
      have i5 : Ints w5 (some ⟨g, 0, none⟩) xs.length xs := (rI_open9 (o1.rd reads_I)).2.2.2
      have i6 := i5.dropTo (k := 1) (by omega)
      rw [Nat.zero_add] at i6
      have zE : Below w5.heap.size w5 (w5.alloc (.cells #[] 3)) := (Below.refl _ _).alloc (Nat.le_refl _) _
      have oE : OwnInts w5.heap.size (w5.alloc (.cells #[] 3)) (.slice (some ⟨w5.heap.size, 0, none⟩) 0 0) 0 [] := own_empty (Nat.le_refl _)
      obtain ⟨g2, c2, wN, hrun, oN, zN, _, hkN⟩ := run_appI (w5.alloc (.cells #[] 3)) w5.heap.size w5.heap.size 0 0 [] ⟨g, 1, none⟩ (xs.length - 1) (c - 1) (xs.drop 1) 24 oE (by simp) (i6.below zE) (by omega) (by omega)
      have sE := zE.size
      have sN := Nat.le_trans sE zN.size
      clear sE
      have HO1 := Lib.hid ((o1.below zE (by omega)).below zN (by omega))
      have HO2 := Lib.hid oN.own
      have hbN := hb6.trans ((zE.trans zN).mono (by omega))
      clear o1 oN oE i5 i6 zE zN hkN i1
      have hlen : (0 : Nat) + (xs.length - 1) ≤ 9 := by omega
      go_wp2_with (at_builtin; refine wpList_app_run hrun rfl rfl rfl rfl rfl ?_)
      refine bodyPost_ret (v := .tuple #[.slice (some ⟨g, 0, none⟩) xs.length c, .slice (some ⟨g2, 0, none⟩) (0 + (xs.length - 1)) c2]) (by simp [results, Try.results45, go_sem]) rfl ⟨some ⟨g, 0, none⟩, xs.length, c, xs, some ⟨g2, 0, none⟩, _, c2, _, rfl, HO1.out.mono (by omega) ?_, HO2.out.mono (by omega) (Nat.le_refl _), ⟨hx1, by simp; omega⟩, hbN⟩
      omega
    | false =>
      go_wp2_with fail
      have HC_o := HC
      clear HC
      refine (l10Seq_any _ cb ba bn bc HC_o (by omega)).mono ?_
      rintro e w7 ⟨b2, n2, c2, ys, rfl, o2, hx2, HC, z7⟩
      clear HC_o
      have s8 := z7.size
      have hb8 := hb6.trans ((z7.below (by omega)).mono (by omega))
      replace o1 := o1.turn z7 (by omega)
      have HO1 := Lib.hid (o1.mono (show w.heap.size ≤ lo1 by omega) (show _ ≤ w7.heap.size by omega))
      have HO2 := Lib.hid (o2.mono (show w.heap.size ≤ _ by omega) (Nat.le_refl _))
      clear o1 o2
      go_wp2_with fail
      refine bodyPost_ret (v := .tuple #[.slice (some ⟨g, 0, none⟩) xs.length c, .slice b2 n2 c2]) (by simp [results, Try.results45, go_sem]) rfl ⟨some ⟨g, 0, none⟩, xs.length, c, xs, b2, n2, c2, ys, rfl, HO1.out, HO2.out, ⟨hx1, hx2⟩, hb8⟩
  · have hgt : ¬ (xs.length : Int) > 1 := by omega
    go_wp2_with fail
    have HC_o := HC
    clear HC
    refine (l10Seq_any _ cb ba bn bc HC_o (by omega)).mono ?_
    rintro e w9 ⟨b2, n2, c2, ys, rfl, o2, hx2, HC, z9⟩
    clear HC_o
    have s10 := z9.size
    have hb10 := hb4.trans ((z9.below (by omega)).mono (by omega))
    replace o1 := o1.turn z9 (by omega)
    have HO1 := Lib.hid (o1.mono (show w.heap.size ≤ lo1 by omega) (show _ ≤ w9.heap.size by omega))
    have HO2 := Lib.hid (o2.mono (show w.heap.size ≤ _ by omega) (Nat.le_refl _))
    clear o1 o2
    go_wp2_with fail
    refine bodyPost_ret (v := .tuple #[.slice b xs.length c, .slice b2 n2 c2]) (by simp [results, Try.results45, go_sem]) rfl ⟨b, xs.length, c, xs, b2, n2, c2, ys, rfl, HO1.out, HO2.out, ⟨hx1, hx2⟩, hb10⟩

end Go.Proofs.Ytehcjdbljdpmbaa

/- Plain: what the law of the sequence bounds asks. -/
namespace Go.Proofs.Ytehcjdbljdpmbaa
open Go.RowKit
set_option linter.unusedVariables false
set_option linter.unusedSimpArgs false

def sqs (xs : List Int) : Int := (xs.map fun x => x * x).sum
theorem sqs_nn : ∀ xs : List Int, 0 ≤ sqs xs
  | [] => by simp [sqs]
  | x :: t => by
    have := sqs_nn t
    have h2 : 0 ≤ x * x := by rcases Int.le_total 0 x with h | h
                              · exact Int.mul_nonneg h h
                              · exact Int.mul_nonneg_of_nonpos_of_nonpos h h
    simp only [sqs, List.map_cons, List.sum_cons] at this ⊢; omega
theorem sq_nn (x : Int) : 0 ≤ x * x := by
  rcases Int.le_total 0 x with h | h
  · exact Int.mul_nonneg h h
  · exact Int.mul_nonneg_of_nonpos_of_nonpos h h
theorem lt_sq {p q : Int} (hp : 0 ≤ p) (h : p < q) : p * p < q * q :=
  Int.lt_of_le_of_lt (Int.mul_le_mul_of_nonneg_left (Int.le_of_lt h) hp) (Int.mul_lt_mul_of_pos_right h (Int.lt_of_le_of_lt hp h))
/-- The step of Cauchy and Schwarz. -/
theorem cs_step {S A B x y : Int} (hS : 0 ≤ S) (hA : 0 ≤ A) (hB : 0 ≤ B) (hx : 0 ≤ x) (hy : 0 ≤ y) (h : S * S ≤ A * B) : (x * y + S) * (x * y + S) ≤ (x * x + A) * (y * y + B) := by
  have key : 2 * S * (x * y) ≤ A * (y * y) + B * (x * x) := by
    refine Int.not_lt.1 fun hlt => ?_
    have h0 : 0 ≤ A * (y * y) + B * (x * x) := Int.add_nonneg (Int.mul_nonneg hA (sq_nn y)) (Int.mul_nonneg hB (sq_nn x))
    have h1 := lt_sq h0 hlt
    have h2 : (S * S) * ((x * y) * (x * y)) ≤ (A * B) * ((x * y) * (x * y)) := Int.mul_le_mul_of_nonneg_right h (sq_nn _)
    have h3 := sq_nn (A * (y * y) - B * (x * x))
    have e1 : (A * (y * y) - B * (x * x)) * (A * (y * y) - B * (x * x)) = (A * (y * y) + B * (x * x)) * (A * (y * y) + B * (x * x)) - 4 * ((A * B) * ((x * y) * (x * y))) := by grind
    have e2 : (2 * S * (x * y)) * (2 * S * (x * y)) = 4 * ((S * S) * ((x * y) * (x * y))) := by grind
    omega
  have e3 : (x * y + S) * (x * y + S) = (x * y) * (x * y) + 2 * S * (x * y) + S * S := by grind
  have e4 : (x * x + A) * (y * y + B) = (x * y) * (x * y) + (A * (y * y) + B * (x * x)) + A * B := by grind
  omega
theorem pairSum_nn : ∀ {xs ys : List Int}, (∀ x ∈ xs, 0 ≤ x) → (∀ y ∈ ys, 0 ≤ y) → 0 ≤ pairSum xs ys
  | [], _, _, _ => by simp [pairSum]
  | _ :: _, [], _, _ => by simp [pairSum]
  | x :: xs, y :: ys, h1, h2 => by
    have ih := pairSum_nn (xs := xs) (ys := ys) (fun z hz => h1 z (List.mem_cons_of_mem _ hz)) (fun z hz => h2 z (List.mem_cons_of_mem _ hz))
    have := Int.mul_nonneg (h1 x (List.mem_cons_self ..)) (h2 y (List.mem_cons_self ..))
    simp only [pairSum]; omega
theorem pairSum_sq : ∀ {xs ys : List Int}, (∀ x ∈ xs, 0 ≤ x) → (∀ y ∈ ys, 0 ≤ y) → pairSum xs ys * pairSum xs ys ≤ sqs xs * sqs ys
  | [], ys, _, _ => by simp [pairSum, sqs]
  | x :: xs, [], _, _ => by simp [pairSum, sqs]
  | x :: xs, y :: ys, h1, h2 => by
    have g1 : ∀ z ∈ xs, 0 ≤ z := fun z hz => h1 z (List.mem_cons_of_mem _ hz)
    have g2 : ∀ z ∈ ys, 0 ≤ z := fun z hz => h2 z (List.mem_cons_of_mem _ hz)
    have ih := pairSum_sq g1 g2
    exact cs_step (pairSum_nn g1 g2) (sqs_nn xs) (sqs_nn ys) (h1 x (List.mem_cons_self ..)) (h2 y (List.mem_cons_self ..)) ih
theorem pwSum_sqs : ∀ {xs : List Int}, (∀ x ∈ xs, 0 ≤ x) → (pwSum xs 2 : Int) = sqs xs
  | [], _ => rfl
  | x :: t, h => by
    have ih := pwSum_sqs (xs := t) (fun z hz => h z (List.mem_cons_of_mem _ hz))
    obtain ⟨n, rfl⟩ := Int.eq_ofNat_of_zero_le (h x (List.mem_cons_self ..))
    simp only [pwSum, sqs, List.map_cons, List.sum_cons, pw, Int.toNat_natCast] at ih ⊢
    rw [← ih, Nat.pow_two]; simp
/-- The root of a number is no smaller than what squares to no more. -/
theorem rootOf_ge {n s : Int} (hn : 0 ≤ n ∧ n ≤ 1000000) (hs : 0 ≤ s) (h : s * s ≤ n) : s ≤ rootOf n 2 := by
  obtain ⟨N, rfl⟩ := Int.eq_ofNat_of_zero_le hn.1
  obtain ⟨S, rfl⟩ := Int.eq_ofNat_of_zero_le hs
  have hb : (betw (N : Int) 0 1000000 && betw 2 1 3) = true := by simp only [betw, Bool.and_eq_true, decide_eq_true_eq]; omega
  have hex : ∀ M : Nat, ∃ r, IsRoot M 2 r := fun M => by
    induction M with
    | zero => exact ⟨0, by simp [IsRoot, pw]⟩
    | succ M ih =>
      obtain ⟨r, h1, h2⟩ := ih
      unfold pw at h1 h2
      by_cases hc : (r + 1) ^ 2 ≤ M + 1
      · refine ⟨r + 1, hc, ?_⟩
        have : (r + 1 + 1) ^ 2 = (r + 1) ^ 2 + 2 * (r + 1) + 1 := by grind
        unfold pw; omega
      · exact ⟨r, by unfold pw; omega, by unfold pw; omega⟩
  obtain ⟨r, hr⟩ := hex N
  have hS : S * S ≤ N := by exact_mod_cast h
  unfold rootOf
  rw [if_pos hb]
  have e : iroot (N : Int).toNat (2 : Int).toNat = r := by rw [Int.toNat_natCast]; exact iroot_eq hr
  rw [e]
  have h2 := hr.2
  unfold pw at h2
  have : S < r + 1 := Nat.lt_of_not_le fun hle => by
    have h9 : (r + 1) * (r + 1) ≤ S * S := Nat.mul_le_mul hle hle
    rw [Nat.pow_two] at h2; omega
  omega
theorem pairBound_rng (a b : List Int) : 0 ≤ pairBound a b ∧ pairBound a b ≤ 512 := by
  unfold pairBound
  split
  · rename_i h
    rw [Bool.and_eq_true] at h
    have h1 := pairSum_rng a b (isDeg_mem h.1) (isDeg_mem h.2)
    have := isDeg_len h.1
    omega
  · omega
theorem bound_cauchy (a b : List Int) : pairBound a b ≤ cauchy a b := by
  unfold pairBound cauchy
  split
  · rename_i h
    have hab := h
    rw [Bool.and_eq_true] at h
    have h1 := isDeg_mem h.1
    have h2 := isDeg_mem h.2
    have g1 : ∀ x ∈ a, 0 ≤ x := fun x hx => by have := h1 x hx; omega
    have g2 : ∀ x ∈ b, 0 ≤ x := fun x hx => by have := h2 x hx; omega
    have n1 : normOf a 2 = sqs a := by
      unfold normOf
      rw [if_pos (by rw [h.1]; decide)]
      exact pwSum_sqs g1
    have n2 : normOf b 2 = sqs b := by
      unfold normOf
      rw [if_pos (by rw [h.2]; decide)]
      exact pwSum_sqs g2
    have hs1 : sqs a ≤ 512 := by
      have e : ∀ xs : List Int, (∀ x ∈ xs, 1 ≤ x ∧ x ≤ 8) → sqs xs ≤ 64 * xs.length := by
        intro xs
        induction xs with
        | nil => intro _; simp [sqs]
        | cons x t ih =>
          intro hx
          have i := ih (fun z hz => hx z (List.mem_cons_of_mem _ hz))
          have q := hx x (List.mem_cons_self ..)
          have : x * x ≤ 8 * 8 := Int.mul_le_mul q.2 q.2 (by omega) (by omega)
          simp only [sqs, List.map_cons, List.sum_cons, List.length_cons] at i ⊢
          omega
      have := e a h1; have := isDeg_len h.1; omega
    have hs2 : sqs b ≤ 512 := by
      have e : ∀ xs : List Int, (∀ x ∈ xs, 1 ≤ x ∧ x ≤ 8) → sqs xs ≤ 64 * xs.length := by
        intro xs
        induction xs with
        | nil => intro _; simp [sqs]
        | cons x t ih =>
          intro hx
          have i := ih (fun z hz => hx z (List.mem_cons_of_mem _ hz))
          have q := hx x (List.mem_cons_self ..)
          have : x * x ≤ 8 * 8 := Int.mul_le_mul q.2 q.2 (by omega) (by omega)
          simp only [sqs, List.map_cons, List.sum_cons, List.length_cons] at i ⊢
          omega
      have := e b h2; have := isDeg_len h.2; omega
    rw [n1, n2]
    refine rootOf_ge ⟨Int.mul_nonneg (sqs_nn a) (sqs_nn b), ?_⟩ (pairSum_nn g1 g2) (pairSum_sq g1 g2)
    have : sqs a * sqs b ≤ 512 * 512 := Int.mul_le_mul hs1 hs2 (sqs_nn b) (by omega)
    omega
  · omega
theorem pairSum_comm : ∀ xs ys : List Int, pairSum xs ys = pairSum ys xs
  | [], [] => rfl
  | [], _ :: _ => rfl
  | _ :: _, [] => rfl
  | x :: xs, y :: ys => by simp only [pairSum, pairSum_comm xs ys, Int.mul_comm]
theorem pairSum_max {M : Int} : ∀ {xs ys : List Int}, (∀ x ∈ xs, 0 ≤ x) → (∀ y ∈ ys, 0 ≤ y ∧ y ≤ M) → 0 ≤ M → pairSum xs ys ≤ xs.sum * M
  | [], _, _, _, _ => by simp [pairSum]
  | x :: xs, [], h1, _, hM => by
    have : 0 ≤ (x :: xs).sum := by
      have e : ∀ l : List Int, (∀ z ∈ l, 0 ≤ z) → 0 ≤ l.sum := by
        intro l
        induction l with
        | nil => intro _; simp
        | cons z t ih => intro hz; have := ih (fun q hq => hz q (List.mem_cons_of_mem _ hq)); have := hz z (List.mem_cons_self ..); simp only [List.sum_cons]; omega
      exact e _ h1
    exact Int.mul_nonneg this hM
  | x :: xs, y :: ys, h1, h2, hM => by
    have ih := pairSum_max (xs := xs) (ys := ys) (fun z hz => h1 z (List.mem_cons_of_mem _ hz)) (fun z hz => h2 z (List.mem_cons_of_mem _ hz)) hM
    have := Int.mul_le_mul_of_nonneg_left (h2 y (List.mem_cons_self ..)).2 (h1 x (List.mem_cons_self ..))
    simp only [pairSum, List.sum_cons, Int.add_mul]; omega
theorem degFrom_le : ∀ {xs : List Int} {left prev : Int}, degFrom left prev xs = true → xs.Pairwise (· ≥ ·) ∧ ∀ x ∈ xs, x ≤ prev
  | [], _, _, _ => ⟨List.Pairwise.nil, fun x hx => by cases hx⟩
  | x :: t, left, prev, h => by
    simp only [degFrom, Bool.and_eq_true, decide_eq_true_eq] at h
    obtain ⟨i1, i2⟩ := degFrom_le h.2
    refine ⟨List.pairwise_cons.2 ⟨fun y hy => i2 y hy, i1⟩, fun y hy => ?_⟩
    rcases List.mem_cons.1 hy with rfl | hy
    · exact h.1.2
    · have := i2 y hy; omega
theorem isDeg_desc {xs : List Int} (h : isDeg xs = true) : xs.Pairwise (· ≥ ·) := (degFrom_le h).1
theorem bound_max (a b : List Int) : pairBound a b ≤ maxDegBound a b := by
  unfold pairBound
  split
  · rename_i h
    rw [Bool.and_eq_true] at h
    have h1 := isDeg_mem h.1
    have h2 := isDeg_mem h.2
    by_cases ha : 0 < a.length
    · by_cases hb : 0 < b.length
      · rw [maxDegBound_yes h.1 h.2 ha hb]
        have g1 : ∀ x ∈ a, 0 ≤ x ∧ x ≤ a.getD 0 0 := fun x hx => ⟨by have := h1 x hx; omega, head_max (isDeg_desc h.1) hx⟩
        have g2 : ∀ x ∈ b, 0 ≤ x ∧ x ≤ b.getD 0 0 := fun x hx => ⟨by have := h2 x hx; omega, head_max (isDeg_desc h.2) hx⟩
        have m1 := g1 _ (getD_mem (k := 0) ha)
        have m2 := g2 _ (getD_mem (k := 0) hb)
        have e1 := pairSum_max (M := b.getD 0 0) (fun x hx => (g1 x hx).1) g2 m2.1
        have e2 := pairSum_max (M := a.getD 0 0) (fun x hx => (g2 x hx).1) g1 m1.1
        rw [pairSum_comm] at e2
        omega
      · have : b = [] := by cases b <;> simp_all
        subst this
        rw [pairSum_comm, maxDegBound_no (by simp)]; simp [pairSum]
    · have : a = [] := by cases a <;> simp_all
      subst this
      rw [maxDegBound_no (by simp)]; simp [pairSum]
  · rename_i h
    rw [maxDegBound_no (fun k => h (by rw [k.1, k.2.1]; rfl))]; omega
theorem parts_deg {M : Int} (hM : 1 ≤ M) : ∀ {f : Nat} {total left prev : Int}, min M total ≤ prev → total ≤ left → degFrom left prev (parts M f total) = true
  | 0, _, _, _, _, _ => rfl
  | f + 1, total, left, prev, h1, h2 => by
    unfold parts
    split
    · rename_i h0
      have hb : betw (min M total) 1 left = true := by simp only [betw, Bool.and_eq_true, decide_eq_true_eq]; omega
      rw [deg_on hb h1]
      exact parts_deg hM (by omega) (by omega)
    · rfl
theorem parts_top {M : Int} (hM : 1 ≤ M) : ∀ {f : Nat} {total S : Int} (k : Nat), S ≤ total → S ≤ (k : Int) * M → total ≤ (f : Int) → S ≤ ((parts M f total).take k).sum
  | f, total, S, 0, _, h2, _ => by simp at h2 ⊢; exact h2
  | 0, total, S, k + 1, h1, _, h3 => by simp [parts]; omega
  | f + 1, total, S, k + 1, h1, h2, h3 => by
    unfold parts
    split
    · rename_i h0
      have e : ((k + 1 : Nat) : Int) * M = (k : Int) * M + M := by rw [Int.natCast_add, Int.add_mul]; simp
      have hk : 0 ≤ (k : Int) * M := Int.mul_nonneg (by omega) (by omega)
      have ih := parts_top hM (f := f) (total := total - min M total) (S := S - min M total) k (by omega) (by omega) (by omega)
      rw [List.take_succ_cons, List.sum_cons]; omega
    · simp; omega
theorem take_sum_le {M : Int} : ∀ {xs : List Int} (k : Nat), (∀ x ∈ xs, 0 ≤ x ∧ x ≤ M) → 0 ≤ M → (xs.take k).sum ≤ (k : Int) * M ∧ (xs.take k).sum ≤ xs.sum
  | [], k, _, hM => by simp; exact Int.mul_nonneg (by omega) hM
  | x :: t, 0, h, hM => by
    have e : ∀ l : List Int, (∀ z ∈ l, 0 ≤ z ∧ z ≤ M) → 0 ≤ l.sum := by
      intro l
      induction l with
      | nil => intro _; simp
      | cons z t ih => intro hz; have := ih (fun q hq => hz q (List.mem_cons_of_mem _ hq)); have := hz z (List.mem_cons_self ..); simp only [List.sum_cons]; omega
    have := e _ h
    simp only [List.take_zero, List.sum_nil]; omega
  | x :: t, k + 1, h, hM => by
    have ih := take_sum_le (xs := t) k (fun z hz => h z (List.mem_cons_of_mem _ hz)) hM
    have hx := h x (List.mem_cons_self ..)
    have e : ((k + 1 : Nat) : Int) * M = (k : Int) * M + M := by rw [Int.natCast_add, Int.add_mul]; simp
    simp only [List.take_succ_cons, List.sum_cons]; omega
/-- Sums by parts: what leads in every prefix leads against a descending list. -/
theorem abel : ∀ {bs us xs : List Int} {d M : Int}, bs.Pairwise (· ≥ ·) → (∀ b ∈ bs, 0 ≤ b ∧ b ≤ M) → 0 ≤ M → (∀ x ∈ xs, 0 ≤ x) → 0 ≤ d → (∀ k, (us.take k).sum ≤ d + (xs.take k).sum) → pairSum us bs ≤ pairSum xs bs + d * M
  | [], us, xs, d, M, _, _, hM, _, hd, _ => by
    have := Int.mul_nonneg hd hM
    rw [pairSum_comm, pairSum_comm xs]; simp [pairSum]; omega
  | b :: t, [], xs, d, M, _, h2, hM, hx, hd, _ => by
    have h9 := pairSum_nn (xs := xs) (ys := b :: t) hx (fun y hy => (h2 y hy).1)
    have := Int.mul_nonneg hd hM
    simp only [pairSum]; omega
  | b :: t, a :: us, [], d, M, h1, h2, hM, hx, hd, hk => by
    rw [List.pairwise_cons] at h1
    have hb := h2 b (List.mem_cons_self ..)
    have k1 := hk 1
    simp at k1
    have ih := abel (bs := t) (us := us) (xs := []) (d := d - a) (M := b) h1.2 (fun y hy => ⟨(h2 y (List.mem_cons_of_mem _ hy)).1, h1.1 y hy⟩) hb.1 (fun x hx => by cases hx) (by omega) (fun k => by have := hk (k + 1); simp at this ⊢; omega)
    have e := Int.mul_le_mul_of_nonneg_left hb.2 hd
    have e2 : (d - a) * b = d * b - a * b := Int.sub_mul ..
    simp only [pairSum] at ih ⊢
    omega
  | b :: t, a :: us, x :: xs, d, M, h1, h2, hM, hx, hd, hk => by
    rw [List.pairwise_cons] at h1
    have hb := h2 b (List.mem_cons_self ..)
    have k1 := hk 1
    simp at k1
    have ih := abel (bs := t) (us := us) (xs := xs) (d := d + x - a) (M := b) h1.2 (fun y hy => ⟨(h2 y (List.mem_cons_of_mem _ hy)).1, h1.1 y hy⟩) hb.1 (fun z hz => hx z (List.mem_cons_of_mem _ hz)) (by omega) (fun k => by have := hk (k + 1); simp at this ⊢; omega)
    have e := Int.mul_le_mul_of_nonneg_left hb.2 hd
    have e2 : (d + x - a) * b = d * b + x * b - a * b := by rw [Int.sub_mul, Int.add_mul]
    simp only [pairSum] at ih ⊢
    omega
theorem norms_facts {a : List Int} (h : isDeg a = true) (h0 : 0 < a.length) : isDeg (fromNorms (seqTotal a) (a.getD 0 0)) = true ∧ ∀ k, (a.take k).sum ≤ ((fromNorms (seqTotal a) (a.getD 0 0)).take k).sum := by
  have hm := isDeg_mem h
  have h1 := hm _ (getD_mem (k := 0) h0)
  have ht : seqTotal a = a.sum := by unfold seqTotal; rw [if_pos h]
  have hr := sum_rng h
  have e : fromNorms (seqTotal a) (a.getD 0 0) = parts (a.getD 0 0) 8 a.sum := by
    unfold fromNorms
    rw [ht, if_pos]
    simp only [betw, Bool.and_eq_true, decide_eq_true_eq]; omega
  rw [e]
  refine ⟨parts_deg h1.1 (by omega) (by omega), fun k => ?_⟩
  have := take_sum_le (M := a.getD 0 0) k (fun x hx => ⟨by have := hm x hx; omega, head_max (isDeg_desc h) hx⟩) (by omega)
  exact parts_top h1.1 k this.2 this.1 (by omega)
theorem norms_dom {a : List Int} (h : isDeg a = true) (h0 : 0 < a.length) : dominates (fromNorms (seqTotal a) (a.getD 0 0)) a = true := by
  obtain ⟨h1, h2⟩ := norms_facts h h0
  refine dom_yes h1 h fun i hi => ?_
  unfold topDeg
  rw [if_pos h1, if_pos h]
  exact h2 _
theorem norms_bound {a : List Int} (b : List Int) (h : isDeg a = true) (h0 : 0 < a.length) : pairBound a b ≤ pairBound (fromNorms (seqTotal a) (a.getD 0 0)) b := by
  obtain ⟨h1, h2⟩ := norms_facts h h0
  unfold pairBound
  rw [h, h1]
  by_cases hb : isDeg b = true
  · rw [hb]
    simp only [Bool.and_self, if_true]
    have hm := isDeg_mem hb
    have := abel (bs := b) (us := a) (xs := fromNorms (seqTotal a) (a.getD 0 0)) (d := 0) (M := 8) (isDeg_desc hb) (fun y hy => by have := hm y hy; omega) (by omega) (fun x hx => by have := isDeg_mem h1 x hx; omega) (by omega) (fun k => by have := h2 k; omega)
    omega
  · have hb' : isDeg b = false := by simpa using hb
    rw [hb']; simp
theorem norm_total (a : List Int) : normOf a 1 = seqTotal a := by
  unfold normOf seqTotal
  by_cases h : isDeg a = true
  · rw [if_pos h, if_pos (by rw [h]; decide)]
    have e : ∀ xs : List Int, (∀ x ∈ xs, 0 ≤ x) → (pwSum xs 1 : Int) = xs.sum := by
      intro xs
      induction xs with
      | nil => intro _; rfl
      | cons x t ih =>
        intro hx
        have i := ih (fun z hz => hx z (List.mem_cons_of_mem _ hz))
        have q := hx x (List.mem_cons_self ..)
        simp only [pwSum, pw, Nat.pow_one, List.map_cons, List.sum_cons] at i ⊢
        rw [← i]; omega
    exact e a (fun x hx => by have := isDeg_mem h x hx; omega)
  · rw [if_neg h, if_neg (by simp [h])]

/-- Rows that agree: over all of one list, how many of the other. -/
def agree (L K : List (List Int)) : Int := (L.map (fun r => (cntRow r K : Int))).sum
theorem agree_groups (f : List Int → Int) {gs : List (List Int)} (hn : gs.Nodup) : ∀ L : List (List Int), (∀ r ∈ L, r ∈ gs) → (L.map f).sum = (gs.map (fun g => (cntRow g L : Int) * f g)).sum
  | [], _ => by
    have h0 : ∀ gs : List (List Int), (gs.map (fun g => (cntRow g [] : Int) * f g)).sum = 0 := by
      intro gs
      induction gs with
      | nil => rfl
      | cons x t ih => simp only [List.map_cons, List.sum_cons, ih]; simp [cntRow]
    rw [h0]; rfl
  | r :: L, h => by
    have ih := agree_groups f hn L (fun x hx => h x (List.mem_cons_of_mem _ hx))
    have e : gs.map (fun g => (cntRow g (r :: L) : Int) * f g) = gs.map (fun g => (if r = g then (1 : Int) else 0) * f r + (cntRow g L : Int) * f g) := by
      refine List.map_congr_left fun g _ => ?_
      rw [cntRow_cons, Int.natCast_add, Int.add_mul]
      by_cases e : r = g
      · subst e; simp
      · simp [e]
    have e2 : (gs.map (fun g => (if r = g then (1 : Int) else 0) * f r)).sum = f r := by
      have : ∀ l : List (List Int), (l.map (fun g => (if r = g then (1 : Int) else 0) * f r)).sum = (l.map (fun g => if r = g then (1 : Int) else 0)).sum * f r := by
        intro l
        induction l with
        | nil => simp
        | cons x t ih => simp only [List.map_cons, List.sum_cons, ih, Int.add_mul]
      rw [this, sum_ind r hn (h r (List.mem_cons_self ..)), Int.one_mul]
    rw [e, sum_map_add, e2, ← ih, List.map_cons, List.sum_cons]
/-- The counts of distinct rows: how many rows are among them. -/
theorem sum_among {S : List (List Int)} (hn : S.Nodup) : ∀ L : List (List Int), (countsOf S L).sum = ((L.filter (fun r => decide (r ∈ S))).length : Int)
  | [] => by
    have h0 : ∀ gs : List (List Int), (countsOf gs []).sum = 0 := by
      intro gs
      induction gs with
      | nil => rfl
      | cons x t ih => simp only [countsOf, List.map_cons, List.sum_cons] at ih ⊢; rw [ih]; simp [cntRow]
    rw [h0]; rfl
  | r :: L => by
    have ih := sum_among hn L
    have e : countsOf S (r :: L) = S.map (fun g => (if r = g then (1 : Int) else 0) + (cntRow g L : Int)) := by
      unfold countsOf
      refine List.map_congr_left fun g _ => ?_
      rw [cntRow_cons]
      split <;> simp
    unfold countsOf at ih
    rw [e, sum_map_add, ih, List.filter_cons]
    by_cases hr : r ∈ S
    · rw [sum_ind r hn hr]; simp [hr]; omega
    · rw [sum_ind_no r hr]; simp [hr]
theorem nodup_le : ∀ {C S : List (List Int)}, C.Nodup → (∀ x ∈ C, x ∈ S) → C.length ≤ S.length
  | [], _, _, _ => Nat.zero_le _
  | c :: C, S, hn, h => by
    rw [List.nodup_cons] at hn
    obtain ⟨s, t, rfl⟩ := List.append_of_mem (h c (List.mem_cons_self ..))
    have := nodup_le (C := C) (S := s ++ t) hn.2 (fun x hx => by
      have h9 := h x (List.mem_cons_of_mem _ hx)
      rw [List.mem_append, List.mem_cons] at h9
      rw [List.mem_append]
      rcases h9 with h9 | rfl | h9
      · exact .inl h9
      · exact absurd hx hn.1
      · exact .inr h9)
    simp only [List.length_append, List.length_cons] at this ⊢; omega
theorem sum_le_take : ∀ {B l : List Int}, List.Sublist l B → B.Pairwise (· ≥ ·) → (∀ b ∈ B, 0 ≤ b) → ∀ k, l.length ≤ k → l.sum ≤ (B.take k).sum
  | _, _, .slnil, _, _, k, _ => by simp
  | _, _, .cons (l₁ := l) (l₂ := B) b h, hp, hb, k, hk => by
    rw [List.pairwise_cons] at hp
    have hb' : ∀ x ∈ B, 0 ≤ x := fun x hx => hb x (List.mem_cons_of_mem _ hx)
    have h0 := hb b (List.mem_cons_self ..)
    have ih := sum_le_take h hp.2 hb' k hk
    cases k with
    | zero => simpa using ih
    | succ k =>
      rw [List.take_succ_cons, List.sum_cons]
      have e : (B.take (k + 1)).sum ≤ b + (B.take k).sum := by
        rw [List.take_add_one, List.sum_append]
        cases hg : B[k]? with
        | none => simp; omega
        | some x => have := hp.1 x (List.mem_of_getElem? hg); simp; omega
      omega
  | _, _, .cons_cons (l₁ := l) (l₂ := B) b h, hp, hb, k, hk => by
    rw [List.pairwise_cons] at hp
    cases k with
    | zero => simp at hk
    | succ k =>
      have ih := sum_le_take h hp.2 (fun x hx => hb x (List.mem_cons_of_mem _ hx)) k (by simpa using hk)
      rw [List.take_succ_cons, List.sum_cons, List.sum_cons]; omega
/-- The counts of k distinct rows add up to no more than the k greatest counts. -/
theorem counts_top {S L : List (List Int)} (hn : S.Nodup) {k : Nat} (hk : S.length ≤ k) : (countsOf S L).sum ≤ ((downS (countsOf (canon L) L)).take k).sum := by
  have hg := asc_nodup (canon_asc L)
  obtain ⟨C, hC⟩ : ∃ C, C = (canon L).filter (fun g => decide (g ∈ S)) := ⟨_, rfl⟩
  have hCn : C.Nodup := by rw [hC]; exact hg.sublist List.filter_sublist
  have e : (countsOf S L).sum = (countsOf C L).sum := by
    rw [sum_among hn, sum_among hCn]
    congr 2
    refine List.filter_congr fun r hr => ?_
    simp [hC, canon_mem, hr]
  have hlen : C.length ≤ S.length := nodup_le hCn (fun x hx => by rw [hC] at hx; simpa using (List.mem_filter.1 hx).2)
  have hsub : List.Sublist (countsOf C L) (countsOf (canon L) L) := by
    unfold countsOf
    rw [hC]
    exact List.Sublist.map _ List.filter_sublist
  obtain ⟨l', hp, hs⟩ := List.exists_perm_sublist hsub (downS_perm (countsOf (canon L) L)).symm
  rw [e, ← sum_perm hp]
  refine sum_le_take hs (downS_desc _) (fun b hb => ?_) k (by rw [hp.length_eq, countsOf_len]; omega)
  have := (downS_perm _).mem_iff.1 hb
  simp only [countsOf, List.mem_map] at this
  obtain ⟨g, _, rfl⟩ := this
  omega
theorem pairSum_map {α : Type} (f g : α → Int) : ∀ l : List α, pairSum (l.map f) (l.map g) = (l.map (fun x => f x * g x)).sum
  | [] => rfl
  | x :: t => by simp only [List.map_cons, pairSum, List.sum_cons, pairSum_map f g t]
/-- The size of a join is at most the bound of the degree sequences. -/
theorem agree_bound (L K : List (List Int)) : agree L K ≤ pairSum (downS (countsOf (canon L) L)) (downS (countsOf (canon K) K)) := by
  have hg := asc_nodup (canon_asc L)
  unfold agree
  rw [agree_groups (fun r => (cntRow r K : Int)) hg L (fun r hr => canon_mem.2 hr)]
  obtain ⟨G, hG⟩ : ∃ G, G = (canon L).mergeSort (fun x y => decide ((cntRow y L : Int) ≤ (cntRow x L : Int))) := ⟨_, rfl⟩
  have hp : G.Perm (canon L) := by rw [hG]; exact List.mergeSort_perm _ _
  have hs : G.Pairwise (fun x y => (cntRow y L : Int) ≤ (cntRow x L : Int)) := by
    rw [hG]
    have := List.pairwise_mergeSort (le := fun x y : List Int => decide ((cntRow y L : Int) ≤ (cntRow x L : Int))) (by intro a b c; simp; omega) (by intro a b; simp; omega) (canon L)
    exact this.imp fun h => by simpa using h
  have hA : G.map (fun g => (cntRow g L : Int)) = downS (countsOf (canon L) L) :=
    downS_uniq (hp.map _) (by rw [List.pairwise_map]; exact hs.imp fun h => h)
  rw [← sum_perm (hp.map _), ← pairSum_map, pairSum_comm, pairSum_comm (downS _), ← hA]
  have hY : G.map (fun g => (cntRow g K : Int)) = countsOf G K := rfl
  rw [hY]
  have hGn : G.Nodup := hp.nodup_iff.2 hg
  have := abel (bs := G.map (fun g => (cntRow g L : Int))) (us := countsOf G K) (xs := downS (countsOf (canon K) K)) (d := 0) (M := L.length) (by rw [List.pairwise_map]; exact hs.imp fun h => h) (fun b hb => by
    obtain ⟨g, _, rfl⟩ := List.mem_map.1 hb
    have := cntRow_le g L; omega) (by omega) (fun x hx => by
    have := (downS_perm _).mem_iff.1 hx
    simp only [countsOf, List.mem_map] at this
    obtain ⟨g, _, rfl⟩ := this
    omega) (by omega) (fun k => by
    have e : (countsOf G K).take k = countsOf (G.take k) K := by unfold countsOf; rw [List.map_take]
    rw [e, Int.zero_add]
    exact counts_top (hGn.sublist (List.take_sublist _ _)) (by rw [List.length_take]; omega))
  omega
/-- The first values of rows, each a row. -/
def col0 (rows : List (List Int)) : List (List Int) := rows.map fun r => [r.getD 0 0]
theorem col0_len (rows : List (List Int)) : (col0 rows).length = rows.length := by simp [col0]
theorem col0_get {rows : List (List Int)} {r : List Int} {j : Nat} (h : rows[j]? = some r) : (col0 rows)[j]? = some [r.getD 0 0] := by simp [col0, h]
theorem valid_row {t : DT} (h : validT t = true) {r : List Int} {j : Nat} (hr : t.2.2[j]? = some r) : 1 ≤ r.length := by
  have := (TOk.of h).row r (List.mem_of_getElem? hr)
  have h2 := (TOk.of h).ar
  omega
theorem valid_cols {t : DT} (h : validT t = true) : colsT t [0] = true := by
  have h2 := (TOk.of h).ar
  rw [colsT, h, Bool.and_true]
  simp only [colsB, colsFrom, betw, Bool.and_true, Bool.and_eq_true, decide_eq_true_eq]
  omega
theorem valid_sel {t : DT} (h : validT t = true) : selRows t.2.2 [0] = col0 t.2.2 := by
  unfold selRows col0
  refine List.map_congr_left fun r hr => ?_
  obtain ⟨j, hj, rfl⟩ := List.mem_iff_getElem.1 hr
  have hl := valid_row h (List.getElem?_eq_getElem hj)
  have hok : selOk (t.2.2[j]) [0] = true := by
    simp only [selOk, List.all_cons, List.all_nil, Bool.and_true, betw, Bool.and_eq_true, decide_eq_true_eq]
    omega
  unfold sel
  rw [if_pos hok]
  simp [selAt]
theorem valid_deg {t : DT} (h : validT t = true) : degSeq t [0] = downS (countsOf (canon (col0 t.2.2)) (col0 t.2.2)) := by
  unfold degSeq grpN groups
  rw [if_pos (valid_cols h), valid_sel h]
theorem join_bound {t u : DT} (h : validT t = true) (h' : validT u = true) : agree (col0 t.2.2) (col0 u.2.2) ≤ pairBound (degSeq t [0]) (degSeq u [0]) := by
  unfold pairBound
  rw [degSeq_deg, degSeq_deg, valid_deg h, valid_deg h']
  simp only [Bool.and_self, if_true]
  exact agree_bound _ _
theorem agree_zero (K : List (List Int)) : agree ([] : List (List Int)) K = 0 := rfl
theorem agree_step {L K : List (List Int)} {r : List Int} {j : Nat} (h : L[j]? = some r) : agree (L.take (j + 1)) K = agree (L.take j) K + (cntRow r K : Int) := by
  rw [List.take_add_one, h]
  simp [agree]
theorem cnt_step {K : List (List Int)} {x y : Int} {k : Nat} (h : K[k]? = some [y]) : cntRow [x] (K.take (k + 1)) = cntRow [x] (K.take k) + (if x = y then 1 else 0) := by
  rw [cntRow_take h]
  by_cases e : x = y
  · subst e; simp
  · rw [if_neg e, if_neg (by simpa using fun e2 => e e2.symm)]

end Go.Proofs.Ytehcjdbljdpmbaa

/- Contracts: the reference's draws (7): integers for a root. -/
namespace Go.Proofs.Ytehcjdbljdpmbaa
open Go.RowKit
set_option linter.unusedVariables false
set_option linter.unusedSimpArgs false
set_option synthInstance.maxSize 2000
set_option synthInstance.maxHeartbeats 400000

set_option maxRecDepth 100000 in
set_option maxHeartbeats 2000000 in
theorem drawRoot_any (w : World) (ba : Option Addr) (bn bc : Nat) (hn : bn ≤ 2000000) (h : Bytes w w.heap.size ba bn) :
    Calls Try.prog 19 #[.slice ba bn bc] w fun e w' => ∃ x k : Int, e = .returned (.tuple #[.int .i64 x, .int .i64 k]) ∧ I64 x ∧ I64 k ∧ Below w.heap.size w w' := by
  have hb0 : Below w.heap.size w w := Below.refl _ _
  go_enter Try.func19, Try.ntmps19
  go_wp2_with fail
  refine (l1New_any _ ba bn bc hn h).mono ?_
  rintro e w1 ⟨cb, rfl, HC, z1, hcb1, hcb2⟩
  have s2 := z1.size
  have hb2 := on hb0 z1
  clear h
  go_wp2_with fail
  have HC_o := HC
  clear HC
  refine (l1Once_any _ cb ba bn bc 3 (by omega) HC_o).mono ?_
  rintro e w3 ⟨t, rfl, HC, z3⟩
  clear HC_o
  have s4 := Nat.le_of_eq z3.size
  have s4' := Nat.le_of_eq z3.size.symm
  replace z3 := z3.turn
  have hb4 := hb2.trans ((z3.below (by omega)).mono (by omega))
  cases t with
  | true =>
    have h9 := ints_lit w3 [-1, 0, 1, 3, 4, 7, 8, 9, 26, 27, 999999, 1000000, 1000001] (i64_lits (by decide)) (by simp)
    obtain ⟨w5, hw5⟩ : ∃ W, W = w3.alloc (.cells #[.int .i64 (-1), .int .i64 0, .int .i64 1, .int .i64 3, .int .i64 4, .int .i64 7, .int .i64 8, .int .i64 9, .int .i64 26, .int .i64 27, .int .i64 999999, .int .i64 1000000, .int .i64 1000001] 3) := ⟨_, rfl⟩
    have z5 : Below w3.heap.size w3 w5 := by rw [hw5]; exact (Below.refl _ _).alloc (Nat.le_refl _) _
    have s5 : w5.heap.size = w3.heap.size + 1 := by rw [hw5]; simp
    have hb5 := on hb4 z5
    replace HC := HC.below' z5 (by omega)
    have L_0 : w5.cell? ⟨w3.heap.size, 0, none⟩ = some (.int .i64 (-1)) := by rw [hw5]; exact box_cell (Below.refl _ _) rfl
    have L_1 : w5.cell? ⟨w3.heap.size, 1, none⟩ = some (.int .i64 0) := by rw [hw5]; exact box_cell (Below.refl _ _) rfl
    have L_2 : w5.cell? ⟨w3.heap.size, 2, none⟩ = some (.int .i64 1) := by rw [hw5]; exact box_cell (Below.refl _ _) rfl
    have L_3 : w5.cell? ⟨w3.heap.size, 3, none⟩ = some (.int .i64 3) := by rw [hw5]; exact box_cell (Below.refl _ _) rfl
    have L_4 : w5.cell? ⟨w3.heap.size, 4, none⟩ = some (.int .i64 4) := by rw [hw5]; exact box_cell (Below.refl _ _) rfl
    have L_5 : w5.cell? ⟨w3.heap.size, 5, none⟩ = some (.int .i64 7) := by rw [hw5]; exact box_cell (Below.refl _ _) rfl
    have L_6 : w5.cell? ⟨w3.heap.size, 6, none⟩ = some (.int .i64 8) := by rw [hw5]; exact box_cell (Below.refl _ _) rfl
    have L_7 : w5.cell? ⟨w3.heap.size, 7, none⟩ = some (.int .i64 9) := by rw [hw5]; exact box_cell (Below.refl _ _) rfl
    have L_8 : w5.cell? ⟨w3.heap.size, 8, none⟩ = some (.int .i64 26) := by rw [hw5]; exact box_cell (Below.refl _ _) rfl
    have L_9 : w5.cell? ⟨w3.heap.size, 9, none⟩ = some (.int .i64 27) := by rw [hw5]; exact box_cell (Below.refl _ _) rfl
    have L_10 : w5.cell? ⟨w3.heap.size, 10, none⟩ = some (.int .i64 999999) := by rw [hw5]; exact box_cell (Below.refl _ _) rfl
    have L_11 : w5.cell? ⟨w3.heap.size, 11, none⟩ = some (.int .i64 1000000) := by rw [hw5]; exact box_cell (Below.refl _ _) rfl
    have L_12 : w5.cell? ⟨w3.heap.size, 12, none⟩ = some (.int .i64 1000001) := by rw [hw5]; exact box_cell (Below.refl _ _) rfl
    have raw5_L_0 := L_0
    have raw5_L_1 := L_1
    have raw5_L_2 := L_2
    have raw5_L_3 := L_3
    have raw5_L_4 := L_4
    have raw5_L_5 := L_5
    have raw5_L_6 := L_6
    have raw5_L_7 := L_7
    have raw5_L_8 := L_8
    have raw5_L_9 := L_9
    have raw5_L_10 := L_10
    have raw5_L_11 := L_11
    have raw5_L_12 := L_12
    rw [hw5] at raw5_L_0 raw5_L_1 raw5_L_2 raw5_L_3 raw5_L_4 raw5_L_5 raw5_L_6 raw5_L_7 raw5_L_8 raw5_L_9 raw5_L_10 raw5_L_11 raw5_L_12
    replace h9 : Ints w5 (some ⟨w3.heap.size, 0, none⟩) 13 [-1, 0, 1, 3, 4, 7, 8, 9, 26, 27, 999999, 1000000, 1000001] := by rw [hw5]; exact h9
    clear L_0 L_1 L_2 L_3 L_4 L_5 L_6 L_7 L_8 L_9 L_10 L_11 L_12
    go_wp2_with fail
    rw [← hw5]
    clear hw5
    clear raw5_L_0 raw5_L_1 raw5_L_2 raw5_L_3 raw5_L_4 raw5_L_5 raw5_L_6 raw5_L_7 raw5_L_8 raw5_L_9 raw5_L_10 raw5_L_11 raw5_L_12
    have HC_o := HC
    clear HC
    refine (l1PickInt_any _ cb ba bn bc _ 13 13 _ (by omega) (by omega) h9 (by omega) HC_o).mono ?_
    rintro e w6 ⟨x, rfl, hx, HC, z6⟩
    clear HC_o
    have s7 := Nat.le_of_eq z6.size
    have s7' := Nat.le_of_eq z6.size.symm
    replace z6 := z6.turn
    have hb7 := hb5.trans ((z6.below (by omega)).mono (by omega))
    have hx64 : I64 x := i64_lits (by decide) x hx
    clear h9 hx
    go_wp2_with fail
    have HC_o := HC
    clear HC
    refine (l1Below_any _ cb ba bn bc 6 (by omega) HC_o).mono ?_
    rintro e w8 ⟨y, rfl, hy0, hy1, hy2, HC, z8⟩
    clear HC_o
    have s9 := Nat.le_of_eq z8.size
    have s9' := Nat.le_of_eq z8.size.symm
    replace z8 := z8.turn
    have hb9 := hb7.trans ((z8.below (by omega)).mono (by omega))
    clear hy1
    go_wp2_with fail
    refine bodyPost_ret (v := .tuple #[.int .i64 x, .int .i64 (y - 1)]) (by simp [results, Try.results19, go_sem]) rfl ⟨x, y - 1, rfl, hx64, ⟨by omega, by omega⟩, hb9⟩
  | false =>
    go_wp2_with fail
    have HC_o := HC
    clear HC
    refine (l1Below_any _ cb ba bn bc 5000 (by omega) HC_o).mono ?_
    rintro e w10 ⟨x, rfl, hx0, hx1, hx2, HC, z10⟩
    clear HC_o
    have s11 := Nat.le_of_eq z10.size
    have s11' := Nat.le_of_eq z10.size.symm
    replace z10 := z10.turn
    have hb11 := hb4.trans ((z10.below (by omega)).mono (by omega))
    go_wp2_with fail
    have HC_o := HC
    clear HC
    refine (l1Below_any _ cb ba bn bc 5 (by omega) HC_o).mono ?_
    rintro e w12 ⟨y, rfl, hy0, hy1, hy2, HC, z12⟩
    clear HC_o
    have s13 := Nat.le_of_eq z12.size
    have s13' := Nat.le_of_eq z12.size.symm
    replace z12 := z12.turn
    have hb13 := hb11.trans ((z12.below (by omega)).mono (by omega))
    clear hx1 hy1
    go_wp2_with fail
    refine bodyPost_ret (v := .tuple #[.int .i64 x, .int .i64 y]) (by simp [results, Try.results19, go_sem]) rfl ⟨x, y, rfl, ⟨by omega, by omega⟩, ⟨by omega, by omega⟩, hb13⟩

end Go.Proofs.Ytehcjdbljdpmbaa
