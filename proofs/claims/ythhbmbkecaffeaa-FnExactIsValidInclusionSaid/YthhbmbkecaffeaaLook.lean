/- Contracts: tables looked up. -/
import Derived.Test.YthhbmbkecaffeaaValidDb
import Derived.Test.YthhbmbkecaffeaaCopy
namespace Go.Proofs.Ythhbmbkecaffeaa
open Go.RowKit Go.Sort
set_option linter.unusedVariables false
set_option linter.unusedSimpArgs false
set_option synthInstance.maxSize 2000
set_option synthInstance.maxHeartbeats 400000

/-- The place of the first table of a name, from place j on; -1 if there is none. -/
def idxFrom (name : ByteArray) (j : Nat) : List DT → Int
  | [] => -1
  | t :: r => if t.1 = name then (j : Int) else idxFrom name (j + 1) r
/-- The table of a name. -/
def look (db : DDb) (name : ByteArray) : Option DT := if validDb db then db.find? (fun t => decide (t.1 = name)) else none
theorem idxFrom_yes {name : ByteArray} {j : Nat} {xs : List DT} {t : DT} (h : xs[j]? = some t) (hn : t.1 = name) : idxFrom name j (xs.drop j) = (j : Int) := by
  rw [drop_at h, idxFrom, if_pos hn]
theorem idxFrom_no {name : ByteArray} {j : Nat} {xs : List DT} {t : DT} (h : xs[j]? = some t) (hn : t.1 ≠ name) : idxFrom name j (xs.drop j) = idxFrom name (j + 1) (xs.drop (j + 1)) := by
  rw [drop_at h, idxFrom, if_neg hn]
theorem idxFrom_end {name : ByteArray} {j : Nat} {xs : List DT} (h : xs.length ≤ j) : idxFrom name j (xs.drop j) = -1 := by
  rw [List.drop_eq_nil_of_le h]; rfl
/-- What the place says. -/
theorem idx_find {name : ByteArray} : ∀ {xs : List DT} {j : Nat}, (idxFrom name j xs = -1 ∧ xs.find? (fun t => decide (t.1 = name)) = none) ∨ ∃ k t, idxFrom name j xs = ((j + k : Nat) : Int) ∧ xs[k]? = some t ∧ xs.find? (fun t => decide (t.1 = name)) = some t
  | [], j => .inl ⟨rfl, rfl⟩
  | t :: r, j => by
    by_cases h : t.1 = name
    · exact .inr ⟨0, t, by simp [idxFrom, h], rfl, by simp [h]⟩
    · rcases @idx_find name r (j + 1) with ⟨h1, h2⟩ | ⟨k, u, h1, h2, h3⟩
      · exact .inl ⟨by rw [idxFrom, if_neg h]; exact h1, by simp [h, h2]⟩
      · exact .inr ⟨k + 1, u, by rw [idxFrom, if_neg h, h1]; omega, by simpa using h2, by simp [h, h3]⟩
theorem dbFrom_mem : ∀ {xs : List DT} {p : Option ByteArray}, dbFrom p xs = true → ∀ t ∈ xs, validT t = true
  | [], _, _, t, ht => by cases ht
  | x :: r, p, h, t, ht => by
    simp only [dbFrom, Bool.and_eq_true] at h
    rcases List.mem_cons.1 ht with rfl | ht
    · exact h.1
    · exact dbFrom_mem h.2.2 t ht
theorem rowsB_mem {n : Int} {rows : List (List Int)} (h : rowsB n rows = true) : ∀ r ∈ rows, (r.length : Int) = n ∧ ∀ v ∈ r, 0 ≤ v ∧ v ≤ 9 := by
  intro r hr
  have h1 := (List.all_eq_true.1 h) r hr
  simp only [rowB, Bool.and_eq_true, decide_eq_true_eq, List.all_eq_true, betw] at h1
  exact ⟨h1.2, fun v hv => h1.1 v hv⟩
/-- What a valid table is known to hold. -/
structure TOk (t : DT) : Prop where
  name : nameB t.1 = true
  ar : 1 ≤ t.2.1 ∧ t.2.1 ≤ 3
  len : t.2.2.length ≤ 8
  row : ∀ r ∈ t.2.2, (r.length : Int) = t.2.1 ∧ ∀ v ∈ r, 0 ≤ v ∧ v ≤ 9
  asc : ascB t.2.2 = true
theorem TOk.of {t : DT} (h : validT t = true) : TOk t := by
  simp only [validT, Bool.and_eq_true, decide_eq_true_eq, betw] at h
  exact ⟨h.1, h.2.1, h.2.2.1, rowsB_mem h.2.2.2.1, h.2.2.2.2⟩
theorem sumBy_bound {α : Type} {f : α → Nat} {B : Nat} : ∀ {xs : List α}, (∀ x ∈ xs, f x ≤ B) → sumBy f xs ≤ xs.length * B
  | [], _ => by simp [sumBy]
  | x :: t, h => by
    have h1 := h x (by simp)
    have h2 := sumBy_bound (fun y hy => h y (List.mem_cons_of_mem x hy))
    simp only [sumBy, List.map_cons, List.sum_cons, List.length_cons, Nat.add_mul, Nat.one_mul] at h2 ⊢
    omega
theorem TOk.bulk {t : DT} (h : TOk t) : bulk_T t ≤ 100 := by
  have h1 : t.1.size = 1 := by have := h.name; simp only [nameB, Bool.and_eq_true, decide_eq_true_eq] at this; exact this.1
  have h2 := h.ar
  have h3 := h.len
  have h4 : sumBy bulk_I t.2.2 ≤ t.2.2.length * 3 := sumBy_bound (fun r hr => by have := (h.row r hr).1; unfold bulk_I; omega)
  have h5 := Nat.mul_le_mul_right 3 h3
  unfold bulk_T bulk_II
  omega
theorem look_ok {db : DDb} {name : ByteArray} {t : DT} (h : look db name = some t) : TOk t := by
  unfold look at h
  split at h
  · rename_i hv
    simp only [validDb, Bool.and_eq_true] at hv
    exact TOk.of (dbFrom_mem hv.1 t (List.mem_of_find?_eq_some h))
  · cases h
theorem look_name {db : DDb} {name : ByteArray} {t : DT} (h : look db name = some t) : t.1 = name := by
  unfold look at h
  split at h
  · have := List.find?_some h; simpa using this
  · cases h

set_option maxHeartbeats 400000 in
theorem lookFn_any (cs : List Value) (t : DT) (name : ByteArray) (p : Addr) (w : World) (h : rT.rep w cs t) (hp : w.cell? p = some (.string name)) (hps : p.spot = none) :
    Calls Try.prog 110 #[.agg cs.toArray, .pointer (some p)] w fun e w' => e = .returned (.bool (decide (t.1 = name))) ∧ Below w.heap.size w w' := by
  obtain ⟨ub, un, uc, rfl, hs, hi, g1⟩ := rT_open h
  obtain ⟨pb, po, ps⟩ := p
  simp only at hps
  subst hps
  have hlt : pb < w.heap.size := cell_lt hp
  clear h g1
  have hb0 : Below w.heap.size w w := Below.refl _ _
  have c0 : w.cell? ⟨pb, po, none⟩ = some (.string name) := hp
  clear hp
  go_enter Try.func110, Try.ntmps110
  obtain ⟨w1, hw1⟩ : ∃ W, W = w.alloc (.cells #[.string t.1, .int .i64 t.2.1, .slice ub un uc] 91) := ⟨_, rfl⟩
  have z1 : Below w.heap.size w w1 := by rw [hw1]; exact (Below.refl _ _).alloc (Nat.le_refl _) _
  have s1 : w1.heap.size = w.heap.size + 1 := by rw [hw1]; simp
  have hb1 := on hb0 z1
  have old1_c0 := c0
  replace c0 := (z1.cell (p := ⟨pb, po, none⟩) (by simp only []; omega)).trans c0
  have b_0 : w1.cell? ⟨w.heap.size, 0, none⟩ = some (.string t.1) := by rw [hw1]; exact box_cell (Below.refl _ _) rfl
  have b_1 : w1.cell? ⟨w.heap.size, 1, none⟩ = some (.int .i64 t.2.1) := by rw [hw1]; exact box_cell (Below.refl _ _) rfl
  have b_2 : w1.cell? ⟨w.heap.size, 2, none⟩ = some (.slice ub un uc) := by rw [hw1]; exact box_cell (Below.refl _ _) rfl
  have raw1_c0 := c0
  have raw1_b_0 := b_0
  have raw1_b_1 := b_1
  have raw1_b_2 := b_2
  rw [hw1] at raw1_c0 raw1_b_0 raw1_b_1 raw1_b_2
  by_cases e : t.1 = name
  · have HE := Lib.hid (show (t.1.toList == name.toList) = true by rw [e]; simp)
    have HD := Lib.hid (decide_eq_true e)
    clear e
    have hq := HE.out
    go_wp2_with fail
    go_ret
    exact ⟨ret_bool HD.out.symm, by first | exact hb1 | (rw [hw1] at hb1; exact hb1)⟩
  · have hq := bytes_ne e
    have HD := Lib.hid (decide_eq_false e)
    clear e
    go_wp2_with fail
    go_ret
    exact ⟨ret_bool HD.out.symm, by first | exact hb1 | (rw [hw1] at hb1; exact hb1)⟩

end Go.Proofs.Ythhbmbkecaffeaa
