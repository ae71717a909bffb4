/- Texts joined for one claim: Look, Look2, Look3, LookA, Dep, Inc, MissP, MissI. -/
import Derived.Test.YtbkoddikfpkocaaQ66cd2cde53
import Derived.Lib.SlicesCompact

/- Contracts: tables looked up. -/
namespace Go.Proofs.Ytbkoddikfpkocaa
open Go.RowKit Go.Sort
set_option linter.unusedVariables false
set_option linter.unusedSimpArgs false
set_option synthInstance.maxSize 2000
set_option synthInstance.maxHeartbeats 400000

/-- The place of the first table of a name, from place j on; -1 if there is none. -/
def idxFrom (name : ByteArray) (j : Nat) : List DT → Int
  | [] => -1
  | t :: r => if t.1 = name then (j : Int) else idxFrom name (j + 1) r
/-- The table of a name. -/
def look (db : DDb) (name : ByteArray) : Option DT := if validDb db then db.find? (fun t => decide (t.1 = name)) else none
theorem idxFrom_yes {name : ByteArray} {j : Nat} {xs : List DT} {t : DT} (h : xs[j]? = some t) (hn : t.1 = name) : idxFrom name j (xs.drop j) = (j : Int) := by
  rw [drop_at h, idxFrom, if_pos hn]
theorem idxFrom_no {name : ByteArray} {j : Nat} {xs : List DT} {t : DT} (h : xs[j]? = some t) (hn : t.1 ≠ name) : idxFrom name j (xs.drop j) = idxFrom name (j + 1) (xs.drop (j + 1)) := by
  rw [drop_at h, idxFrom, if_neg hn]
theorem idxFrom_end {name : ByteArray} {j : Nat} {xs : List DT} (h : xs.length ≤ j) : idxFrom name j (xs.drop j) = -1 := by
  rw [List.drop_eq_nil_of_le h]; rfl
/-- What the place says. -/
theorem idx_find {name : ByteArray} : ∀ {xs : List DT} {j : Nat}, (idxFrom name j xs = -1 ∧ xs.find? (fun t => decide (t.1 = name)) = none) ∨ ∃ k t, idxFrom name j xs = ((j + k : Nat) : Int) ∧ xs[k]? = some t ∧ xs.find? (fun t => decide (t.1 = name)) = some t
  | [], j => .inl ⟨rfl, rfl⟩
  | t :: r, j => by
    by_cases h : t.1 = name
    · exact .inr ⟨0, t, by simp [idxFrom, h], rfl, by simp [h]⟩
    · rcases @idx_find name r (j + 1) with ⟨h1, h2⟩ | ⟨k, u, h1, h2, h3⟩
      · exact .inl ⟨by rw [idxFrom, if_neg h]; exact h1, by simp [h, h2]⟩
      · exact .inr ⟨k + 1, u, by rw [idxFrom, if_neg h, h1]; omega, by simpa using h2, by simp [h, h3]⟩
theorem dbFrom_mem : ∀ {xs : List DT} {p : Option ByteArray}, dbFrom p xs = true → ∀ t ∈ xs, validT t = true
  | [], _, _, t, ht => by cases ht
  | x :: r, p, h, t, ht => by
    simp only [dbFrom, Bool.and_eq_true] at h
    rcases List.mem_cons.1 ht with rfl | ht
    · exact h.1
    · exact dbFrom_mem h.2.2 t ht
theorem rowsB_mem {n : Int} {rows : List (List Int)} (h : rowsB n rows = true) : ∀ r ∈ rows, (r.length : Int) = n ∧ ∀ v ∈ r, 0 ≤ v ∧ v ≤ 9 := by
  intro r hr
  have h1 := (List.all_eq_true.1 h) r hr
  simp only [rowB, Bool.and_eq_true, decide_eq_true_eq, List.all_eq_true, betw] at h1
  exact ⟨h1.2, fun v hv => h1.1 v hv⟩
/-- What a valid table is known to hold. -/
structure TOk (t : DT) : Prop where
  name : nameB t.1 = true
  ar : 1 ≤ t.2.1 ∧ t.2.1 ≤ 3
  len : t.2.2.length ≤ 8
  row : ∀ r ∈ t.2.2, (r.length : Int) = t.2.1 ∧ ∀ v ∈ r, 0 ≤ v ∧ v ≤ 9
  asc : ascB t.2.2 = true
theorem TOk.of {t : DT} (h : validT t = true) : TOk t := by
  simp only [validT, Bool.and_eq_true, decide_eq_true_eq, betw] at h
  exact ⟨h.1, h.2.1, h.2.2.1, rowsB_mem h.2.2.2.1, h.2.2.2.2⟩
theorem sumBy_bound {α : Type} {f : α → Nat} {B : Nat} : ∀ {xs : List α}, (∀ x ∈ xs, f x ≤ B) → sumBy f xs ≤ xs.length * B
  | [], _ => by simp [sumBy]
  | x :: t, h => by
    have h1 := h x (by simp)
    have h2 := sumBy_bound (fun y hy => h y (List.mem_cons_of_mem x hy))
    simp only [sumBy, List.map_cons, List.sum_cons, List.length_cons, Nat.add_mul, Nat.one_mul] at h2 ⊢
    omega
theorem TOk.bulk {t : DT} (h : TOk t) : bulk_T t ≤ 100 := by
  have h1 : t.1.size = 1 := by have := h.name; simp only [nameB, Bool.and_eq_true, decide_eq_true_eq] at this; exact this.1
  have h2 := h.ar
  have h3 := h.len
  have h4 : sumBy bulk_I t.2.2 ≤ t.2.2.length * 3 := sumBy_bound (fun r hr => by have := (h.row r hr).1; unfold bulk_I; omega)
  have h5 := Nat.mul_le_mul_right 3 h3
  unfold bulk_T bulk_II
  omega
theorem look_ok {db : DDb} {name : ByteArray} {t : DT} (h : look db name = some t) : TOk t := by
  unfold look at h
  split at h
  · rename_i hv
    simp only [validDb, Bool.and_eq_true] at hv
    exact TOk.of (dbFrom_mem hv.1 t (List.mem_of_find?_eq_some h))
  · cases h
theorem look_name {db : DDb} {name : ByteArray} {t : DT} (h : look db name = some t) : t.1 = name := by
  unfold look at h
  split at h
  · have := List.find?_some h; simpa using this
  · cases h

set_option maxHeartbeats 400000 in
theorem lookFn_any (cs : List Value) (t : DT) (name : ByteArray) (p : Addr) (w : World) (h : rT.rep w cs t) (hp : w.cell? p = some (.string name)) (hps : p.spot = none) :
    Calls Try.prog 195 #[.agg cs.toArray, .pointer (some p)] w fun e w' => e = .returned (.bool (decide (t.1 = name))) ∧ Below w.heap.size w w' := by
  obtain ⟨ub, un, uc, rfl, hs, hi, g1⟩ := rT_open h
  obtain ⟨pb, po, ps⟩ := p
  simp only at hps
  subst hps
  have hlt : pb < w.heap.size := cell_lt hp
  clear h g1
  have hb0 : Below w.heap.size w w := Below.refl _ _
  have c0 : w.cell? ⟨pb, po, none⟩ = some (.string name) := hp
  clear hp
  go_enter Try.func195, Try.ntmps195
  obtain ⟨w1, hw1⟩ : ∃ W, W = w.alloc (.cells #[.string t.1, .int .i64 t.2.1, .slice ub un uc] 34) := ⟨_, rfl⟩
  have z1 : Below w.heap.size w w1 := by rw [hw1]; exact (Below.refl _ _).alloc (Nat.le_refl _) _
  have s1 : w1.heap.size = w.heap.size + 1 := by rw [hw1]; simp
  have hb1 := on hb0 z1
  have old1_c0 := c0
  replace c0 := (z1.cell (p := ⟨pb, po, none⟩) (by simp only []; omega)).trans c0
  have b_0 : w1.cell? ⟨w.heap.size, 0, none⟩ = some (.string t.1) := by rw [hw1]; exact box_cell (Below.refl _ _) rfl
  have b_1 : w1.cell? ⟨w.heap.size, 1, none⟩ = some (.int .i64 t.2.1) := by rw [hw1]; exact box_cell (Below.refl _ _) rfl
  have b_2 : w1.cell? ⟨w.heap.size, 2, none⟩ = some (.slice ub un uc) := by rw [hw1]; exact box_cell (Below.refl _ _) rfl
  have raw1_c0 := c0
  have raw1_b_0 := b_0
  have raw1_b_1 := b_1
  have raw1_b_2 := b_2
  rw [hw1] at raw1_c0 raw1_b_0 raw1_b_1 raw1_b_2
  by_cases e : t.1 = name
  · have HE := Lib.hid (show (t.1.toList == name.toList) = true by rw [e]; simp)
    have HD := Lib.hid (decide_eq_true e)
    clear e
    have hq := HE.out
    go_wp2_with fail
    go_ret
    exact ⟨ret_bool HD.out.symm, by first | exact hb1 | (rw [hw1] at hb1; exact hb1)⟩
  · have hq := bytes_ne e
    have HD := Lib.hid (decide_eq_false e)
    clear e
    go_wp2_with fail
    go_ret
    exact ⟨ret_bool HD.out.symm, by first | exact hb1 | (rw [hw1] at hb1; exact hb1)⟩

end Go.Proofs.Ytbkoddikfpkocaa

/- Contracts: tables looked up (2). -/
namespace Go.Proofs.Ytbkoddikfpkocaa
open Go.RowKit Go.Sort
set_option linter.unusedVariables false
set_option linter.unusedSimpArgs false
set_option synthInstance.maxSize 2000
set_option synthInstance.maxHeartbeats 400000

set_option maxHeartbeats 1000000 in
theorem indexT_any (ub : Option Addr) (un uc : Nat) (x : List DT) (name : ByteArray) (p : Addr) (w : World) (h : rTl.rep w [.slice ub un uc] x) (hp : w.cell? p = some (.string name)) (hps : p.spot = none) :
    Calls Try.prog 194 #[.slice ub un uc, .func (.func 195) #[] #[.pointer (some p)]] w fun e w' => e = .returned (.int .i64 (idxFrom name 0 x)) ∧ Below w.heap.size w w' := by
  have t1 := rS_sl h
  have hl := t1.len
  have hn := t1.small
  have HV : Hid (idxFrom name 0 x = idxFrom name 0 (x.drop 0)) := rfl
  have HL := Lib.hid hl
  obtain ⟨pb, po, ps⟩ := p
  simp only at hps
  subst hps
  have hplt : pb < w.heap.size := cell_lt hp
  clear h
  have hb0 : Below w.heap.size w w := Below.refl _ _
  have c0 : w.cell? ⟨pb, po, none⟩ = some (.string name) := hp
  clear hp
  go_enter Try.func194, Try.ntmps194
  go_wp2_with fail
  go_loopw [8] (fun k wr => ∃ j : Nat, j ≤ un ∧ k = .int .i64 j ∧ Hid (idxFrom name 0 x = idxFrom name j (x.drop j)) ∧ Below w.heap.size w wr) (fun k _ => un - (intOf k).toNat)
  case atStart => exact ⟨0, Nat.zero_le _, rfl, HV.out, Below.refl _ _⟩
  case round =>
    obtain ⟨j, hj, rfl, hE, hdr⟩ := hrel
    obtain ⟨wo, rfl⟩ : ∃ W, W = wr := ⟨_, rfl⟩
    have hlc := hdr
    have s1 := hdr.size
    have hb1 := on hb0 hdr
    replace c0 := (hdr.cell (p := ⟨pb, po, none⟩) (by simp only []; omega)).trans c0
    by_cases hlt : j < un
    · obtain ⟨b1, o1, cs, t, rfl, hx, hr, hc⟩ := t1.at hlt
      have hcall := fun W (hW : Below w.heap.size w W) hq => lookFn_any cs t name ⟨pb, po, none⟩ W (rT.mono hr hW) hq rfl
      by_cases hne : t.1 = name
      · have HE : Hid (idxFrom name 0 x = (j : Int)) := Lib.hid (hE.out.trans (idxFrom_yes hx.out hne))
        have hd : decide (t.1 = name) = true := decide_eq_true hne
        simp only [hd] at hcall
        have HC := Lib.hid hcall
        obtain ⟨s, i, rows⟩ := t
        obtain ⟨tb, tn, tc, rfl, hs, hi, g2⟩ := rT_open hr
        simp only at hs hi g2 HC
        have e_lt : b1 < w.heap.size := cell_lt (hc 0 _ rfl)
        have e_0 : wo.cell? ⟨b1, o1 + j * 3, none⟩ = some (.string s) := (hb1.cell (p := ⟨b1, o1 + j * 3, none⟩) e_lt).trans (by have h9 := hc 0 _ rfl; rw [← Nat.add_assoc] at h9; exact h9)
        have e_1 : wo.cell? ⟨b1, o1 + j * 3 + 1, none⟩ = some (.int .i64 i) := (hb1.cell (p := ⟨b1, o1 + j * 3 + 1, none⟩) e_lt).trans (by have h9 := hc 1 _ rfl; rw [← Nat.add_assoc] at h9; exact h9)
        have e_2 : wo.cell? ⟨b1, o1 + j * 3 + 2, none⟩ = some (.slice tb tn tc) := (hb1.cell (p := ⟨b1, o1 + j * 3 + 2, none⟩) e_lt).trans (by have h9 := hc 2 _ rfl; rw [← Nat.add_assoc] at h9; exact h9)
        clear hcall hd hne hE HV hx hr hc g2 hl t1 hs hi
        go_wp2_with (go_at_call 195; refine (HC.out _ hb1 c0).mono ?_; rintro e w8 ⟨rfl, z8⟩)
        have s2 := z8.size
        have hb2 := on hb1 z8
        replace c0 := (z8.cell (p := ⟨pb, po, none⟩) (by simp only []; omega)).trans c0
        replace hlc := on hlc z8
        replace e_0 := (z8.cell (p := ⟨b1, o1 + j * 3, none⟩) (by simp only []; omega)).trans e_0
        replace e_1 := (z8.cell (p := ⟨b1, o1 + j * 3 + 1, none⟩) (by simp only []; omega)).trans e_1
        replace e_2 := (z8.cell (p := ⟨b1, o1 + j * 3 + 2, none⟩) (by simp only []; omega)).trans e_2
        go_wp2_with fail
        go_ret
        exact ⟨by rw [HE.out]; rfl, hb2⟩
      · have HE : Hid (idxFrom name 0 x = idxFrom name (j + 1) (x.drop (j + 1))) := Lib.hid (hE.out.trans (idxFrom_no hx.out hne))
        have hd : decide (t.1 = name) = false := decide_eq_false hne
        simp only [hd] at hcall
        have HC := Lib.hid hcall
        obtain ⟨s, i, rows⟩ := t
        obtain ⟨tb, tn, tc, rfl, hs, hi, g2⟩ := rT_open hr
        simp only at hs hi g2 HC
        have e_lt : b1 < w.heap.size := cell_lt (hc 0 _ rfl)
        have e_0 : wo.cell? ⟨b1, o1 + j * 3, none⟩ = some (.string s) := (hb1.cell (p := ⟨b1, o1 + j * 3, none⟩) e_lt).trans (by have h9 := hc 0 _ rfl; rw [← Nat.add_assoc] at h9; exact h9)
        have e_1 : wo.cell? ⟨b1, o1 + j * 3 + 1, none⟩ = some (.int .i64 i) := (hb1.cell (p := ⟨b1, o1 + j * 3 + 1, none⟩) e_lt).trans (by have h9 := hc 1 _ rfl; rw [← Nat.add_assoc] at h9; exact h9)
        have e_2 : wo.cell? ⟨b1, o1 + j * 3 + 2, none⟩ = some (.slice tb tn tc) := (hb1.cell (p := ⟨b1, o1 + j * 3 + 2, none⟩) e_lt).trans (by have h9 := hc 2 _ rfl; rw [← Nat.add_assoc] at h9; exact h9)
        clear hcall hd hne hE HV hx hr hc g2 hl t1 hs hi
        go_wp2_with (go_at_call 195; refine (HC.out _ hb1 c0).mono ?_; rintro e w8 ⟨rfl, z8⟩)
        have s3 := z8.size
        have hb3 := on hb1 z8
        replace c0 := (z8.cell (p := ⟨pb, po, none⟩) (by simp only []; omega)).trans c0
        replace hlc := on hlc z8
        replace e_0 := (z8.cell (p := ⟨b1, o1 + j * 3, none⟩) (by simp only []; omega)).trans e_0
        replace e_1 := (z8.cell (p := ⟨b1, o1 + j * 3 + 1, none⟩) (by simp only []; omega)).trans e_1
        replace e_2 := (z8.cell (p := ⟨b1, o1 + j * 3 + 2, none⟩) (by simp only []; omega)).trans e_2
        go_wp2_with fail
        go_roundw
        case rel => exact ⟨j + 1, by omega, by go_num, HE.out, hlc⟩
        case measure => simp [intOf]; omega
    · have HE : Hid (idxFrom name 0 x = -1) := Lib.hid (hE.out.trans (idxFrom_end (by have := HL.out; omega)))
      clear t1 hl hE HV
      go_wp2_with fail
      go_ret
      exact ⟨by rw [HE.out]; rfl, hb1⟩

theorem look_some_idx {db : DDb} {name : ByteArray} {t : DT} (h : look db name = some t) : ∃ k : Nat, idxFrom name 0 db = (k : Int) ∧ db[k]? = some t ∧ validDb db = true := by
  unfold look at h
  split at h
  · rename_i hv
    rcases @idx_find name db 0 with ⟨_, h2⟩ | ⟨k, u, h1, h2, h3⟩
    · rw [h2] at h; cases h
    · rw [h3] at h
      obtain rfl := Option.some.inj h
      exact ⟨k, by simpa using h1, h2, hv⟩
  · cases h
theorem look_none_idx {db : DDb} {name : ByteArray} (h : look db name = none) : idxFrom name 0 db = -1 ∨ ∃ k : Nat, idxFrom name 0 db = (k : Int) ∧ validDb db = false := by
  unfold look at h
  rcases @idx_find name db 0 with ⟨h1, _⟩ | ⟨k, u, h1, h2, h3⟩
  · exact .inl h1
  · split at h
    · rw [h3] at h; cases h
    · rename_i hv
      exact .inr ⟨k, by simpa using h1, by simpa using hv⟩
/-- The table that is handed back where there is none. -/
abbrev noT : Array Value := #[.string ⟨#[]⟩, .int .i64 0, .slice none 0 0]

set_option maxHeartbeats 1000000 in
theorem lookI_none (cs : List Value) (db : DDb) (name : ByteArray) (w : World) (h : rDb.rep w cs db) (hL : look db name = none) :
    Calls Try.prog 149 #[.agg cs.toArray, .string name] w fun e w' => e = .returned (.tuple #[.agg noT, .bool false]) ∧ Below w.heap.size w w' := by
  obtain ⟨ub, un, uc, rfl, g1⟩ := rDb_open h
  have hcall := fun W p (hW : Below w.heap.size w W) hq hs => indexT_any ub un uc db name p W (rTl.mono g1 hW) hq hs
  have hval := fun W (hW : Below w.heap.size w W) => validDb_impl [.slice ub un uc] db W (rDb.mono h hW)
  clear h g1
  rcases look_none_idx hL with HI | ⟨k, HI, hv⟩
  · simp only [HI] at hcall
    have HC := Lib.hid hcall
    clear hcall hval HI hL
    have hb0 : Below w.heap.size w w := Below.refl _ _
    go_enter Try.func149, Try.ntmps149
    obtain ⟨w1, hw1⟩ : ∃ W, W = w.alloc (.cells #[.slice ub un uc] 89) := ⟨_, rfl⟩
    have z1 : Below w.heap.size w w1 := by rw [hw1]; exact (Below.refl _ _).alloc (Nat.le_refl _) _
    have s1 : w1.heap.size = w.heap.size + 1 := by rw [hw1]; simp
    have hb1 := on hb0 z1
    have b_0 : w1.cell? ⟨w.heap.size, 0, none⟩ = some (.slice ub un uc) := by rw [hw1]; exact box_cell (Below.refl _ _) rfl
    have b_f0 : w1.frozen? ⟨w.heap.size, 0, none⟩ = false := by rw [hw1]; exact box_frozen (Below.refl _ _)
    have raw1_b_0 := b_0
    rw [hw1] at raw1_b_0
    obtain ⟨w2, hw2⟩ : ∃ W, W = w1.alloc (.cells #[.string name] 9) := ⟨_, rfl⟩
    have z2 : Below w1.heap.size w1 w2 := by rw [hw2]; exact (Below.refl _ _).alloc (Nat.le_refl _) _
    have s2 : w2.heap.size = w1.heap.size + 1 := by rw [hw2]; simp
    have hb2 := on hb1 z2
    replace b_0 := (z2.cell (p := ⟨w.heap.size, 0, none⟩) (by simp only []; omega)).trans b_0
    replace b_f0 := (z2.frozen (p := ⟨w.heap.size, 0, none⟩) (by simp only []; omega)).trans b_f0
    have e2 : w1.heap.size = w.heap.size + 1 := by omega
    have p_0 : w2.cell? ⟨w1.heap.size, 0, none⟩ = some (.string name) := by rw [hw2]; exact box_cell (Below.refl _ _) rfl
    rw [e2] at p_0
    have p_f0 : w2.frozen? ⟨w1.heap.size, 0, none⟩ = false := by rw [hw2]; exact box_frozen (Below.refl _ _)
    rw [e2] at p_f0
    have raw2_b_0 := b_0
    have raw2_p_0 := p_0
    rw [hw2, hw1] at raw2_b_0 raw2_p_0
    obtain ⟨w3, hw3⟩ : ∃ W, W = w2.alloc (.cells #[.string ⟨#[]⟩, .int .i64 0, .slice none 0 0] 34) := ⟨_, rfl⟩
    have z3 : Below w2.heap.size w2 w3 := by rw [hw3]; exact (Below.refl _ _).alloc (Nat.le_refl _) _
    have s3 : w3.heap.size = w2.heap.size + 1 := by rw [hw3]; simp
    have hb3 := on hb2 z3
    replace b_0 := (z3.cell (p := ⟨w.heap.size, 0, none⟩) (by simp only []; omega)).trans b_0
    replace b_f0 := (z3.frozen (p := ⟨w.heap.size, 0, none⟩) (by simp only []; omega)).trans b_f0
    replace p_0 := (z3.cell (p := ⟨w.heap.size + 1, 0, none⟩) (by simp only []; omega)).trans p_0
    replace p_f0 := (z3.frozen (p := ⟨w.heap.size + 1, 0, none⟩) (by simp only []; omega)).trans p_f0
    have e3 : w2.heap.size = w.heap.size + 1 + 1 := by omega
    have r_0 : w3.cell? ⟨w2.heap.size, 0, none⟩ = some (.string ⟨#[]⟩) := by rw [hw3]; exact box_cell (Below.refl _ _) rfl
    have r_1 : w3.cell? ⟨w2.heap.size, 1, none⟩ = some (.int .i64 0) := by rw [hw3]; exact box_cell (Below.refl _ _) rfl
    have r_2 : w3.cell? ⟨w2.heap.size, 2, none⟩ = some (.slice none 0 0) := by rw [hw3]; exact box_cell (Below.refl _ _) rfl
    rw [e3] at r_0 r_1 r_2
    have r_f0 : w3.frozen? ⟨w2.heap.size, 0, none⟩ = false := by rw [hw3]; exact box_frozen (Below.refl _ _)
    have r_f1 : w3.frozen? ⟨w2.heap.size, 1, none⟩ = false := by rw [hw3]; exact box_frozen (Below.refl _ _)
    have r_f2 : w3.frozen? ⟨w2.heap.size, 2, none⟩ = false := by rw [hw3]; exact box_frozen (Below.refl _ _)
    rw [e3] at r_f0 r_f1 r_f2
    have raw3_b_0 := b_0
    have raw3_p_0 := p_0
    have raw3_r_0 := r_0
    have raw3_r_1 := r_1
    have raw3_r_2 := r_2
    rw [hw3, hw2, hw1] at raw3_b_0 raw3_p_0 raw3_r_0 raw3_r_1 raw3_r_2
    go_wp2_with fail
    rw [← hw1]
    rw [← hw2]
    rw [← hw3]
    clear hw3 hw2 hw1
    clear raw1_b_0 raw2_b_0 raw2_p_0 raw3_b_0 raw3_p_0 raw3_r_0 raw3_r_1 raw3_r_2
    refine (HC.out _ _ hb3 p_0 rfl).mono ?_
    rintro e w9 ⟨rfl, z9⟩
    have s4 := z9.size
    have hb4 := on hb3 z9
    replace b_0 := (z9.cell (p := ⟨w.heap.size, 0, none⟩) (by simp only []; omega)).trans b_0
    replace b_f0 := (z9.frozen (p := ⟨w.heap.size, 0, none⟩) (by simp only []; omega)).trans b_f0
    replace p_0 := (z9.cell (p := ⟨w.heap.size + 1, 0, none⟩) (by simp only []; omega)).trans p_0
    replace p_f0 := (z9.frozen (p := ⟨w.heap.size + 1, 0, none⟩) (by simp only []; omega)).trans p_f0
    replace r_0 := (z9.cell (p := ⟨w.heap.size + 1 + 1, 0, none⟩) (by simp only []; omega)).trans r_0
    replace r_1 := (z9.cell (p := ⟨w.heap.size + 1 + 1, 1, none⟩) (by simp only []; omega)).trans r_1
    replace r_2 := (z9.cell (p := ⟨w.heap.size + 1 + 1, 2, none⟩) (by simp only []; omega)).trans r_2
    replace r_f0 := (z9.frozen (p := ⟨w.heap.size + 1 + 1, 0, none⟩) (by simp only []; omega)).trans r_f0
    replace r_f1 := (z9.frozen (p := ⟨w.heap.size + 1 + 1, 1, none⟩) (by simp only []; omega)).trans r_f1
    replace r_f2 := (z9.frozen (p := ⟨w.heap.size + 1 + 1, 2, none⟩) (by simp only []; omega)).trans r_f2
    go_wp2_with fail
    refine bodyPost_ret (v := .tuple #[.agg noT, .bool false]) (by simp [results, Try.results149, go_sem, noT, r_0, r_1, r_2, r_f0, r_f1, r_f2]) rfl ⟨rfl, ?_⟩
    repeat (refine Below.setCell ?_ (by simp only []; omega) _)
    exact hb4
  · simp only [HI] at hcall
    simp only [hv] at hval
    have HC := Lib.hid hcall
    have HV := Lib.hid hval
    clear hcall hval HI hL hv
    have hb0 : Below w.heap.size w w := Below.refl _ _
    go_enter Try.func149, Try.ntmps149
    obtain ⟨w5, hw5⟩ : ∃ W, W = w.alloc (.cells #[.slice ub un uc] 89) := ⟨_, rfl⟩
    have z5 : Below w.heap.size w w5 := by rw [hw5]; exact (Below.refl _ _).alloc (Nat.le_refl _) _
    have s5 : w5.heap.size = w.heap.size + 1 := by rw [hw5]; simp
    have hb5 := on hb0 z5
    have b_0 : w5.cell? ⟨w.heap.size, 0, none⟩ = some (.slice ub un uc) := by rw [hw5]; exact box_cell (Below.refl _ _) rfl
    have b_f0 : w5.frozen? ⟨w.heap.size, 0, none⟩ = false := by rw [hw5]; exact box_frozen (Below.refl _ _)
    have raw5_b_0 := b_0
    rw [hw5] at raw5_b_0
    obtain ⟨w6, hw6⟩ : ∃ W, W = w5.alloc (.cells #[.string name] 9) := ⟨_, rfl⟩
    have z6 : Below w5.heap.size w5 w6 := by rw [hw6]; exact (Below.refl _ _).alloc (Nat.le_refl _) _
    have s6 : w6.heap.size = w5.heap.size + 1 := by rw [hw6]; simp
    have hb6 := on hb5 z6
    replace b_0 := (z6.cell (p := ⟨w.heap.size, 0, none⟩) (by simp only []; omega)).trans b_0
    replace b_f0 := (z6.frozen (p := ⟨w.heap.size, 0, none⟩) (by simp only []; omega)).trans b_f0
    have e6 : w5.heap.size = w.heap.size + 1 := by omega
    have p_0 : w6.cell? ⟨w5.heap.size, 0, none⟩ = some (.string name) := by rw [hw6]; exact box_cell (Below.refl _ _) rfl
    rw [e6] at p_0
    have p_f0 : w6.frozen? ⟨w5.heap.size, 0, none⟩ = false := by rw [hw6]; exact box_frozen (Below.refl _ _)
    rw [e6] at p_f0
    have raw6_b_0 := b_0
    have raw6_p_0 := p_0
    rw [hw6, hw5] at raw6_b_0 raw6_p_0
    obtain ⟨w7, hw7⟩ : ∃ W, W = w6.alloc (.cells #[.string ⟨#[]⟩, .int .i64 0, .slice none 0 0] 34) := ⟨_, rfl⟩
    have z7 : Below w6.heap.size w6 w7 := by rw [hw7]; exact (Below.refl _ _).alloc (Nat.le_refl _) _
    have s7 : w7.heap.size = w6.heap.size + 1 := by rw [hw7]; simp
    have hb7 := on hb6 z7
    replace b_0 := (z7.cell (p := ⟨w.heap.size, 0, none⟩) (by simp only []; omega)).trans b_0
    replace b_f0 := (z7.frozen (p := ⟨w.heap.size, 0, none⟩) (by simp only []; omega)).trans b_f0
    replace p_0 := (z7.cell (p := ⟨w.heap.size + 1, 0, none⟩) (by simp only []; omega)).trans p_0
    replace p_f0 := (z7.frozen (p := ⟨w.heap.size + 1, 0, none⟩) (by simp only []; omega)).trans p_f0
    have e7 : w6.heap.size = w.heap.size + 1 + 1 := by omega
    have r_0 : w7.cell? ⟨w6.heap.size, 0, none⟩ = some (.string ⟨#[]⟩) := by rw [hw7]; exact box_cell (Below.refl _ _) rfl
    have r_1 : w7.cell? ⟨w6.heap.size, 1, none⟩ = some (.int .i64 0) := by rw [hw7]; exact box_cell (Below.refl _ _) rfl
    have r_2 : w7.cell? ⟨w6.heap.size, 2, none⟩ = some (.slice none 0 0) := by rw [hw7]; exact box_cell (Below.refl _ _) rfl
    rw [e7] at r_0 r_1 r_2
    have r_f0 : w7.frozen? ⟨w6.heap.size, 0, none⟩ = false := by rw [hw7]; exact box_frozen (Below.refl _ _)
    have r_f1 : w7.frozen? ⟨w6.heap.size, 1, none⟩ = false := by rw [hw7]; exact box_frozen (Below.refl _ _)
    have r_f2 : w7.frozen? ⟨w6.heap.size, 2, none⟩ = false := by rw [hw7]; exact box_frozen (Below.refl _ _)
    rw [e7] at r_f0 r_f1 r_f2
    have raw7_b_0 := b_0
    have raw7_p_0 := p_0
    have raw7_r_0 := r_0
    have raw7_r_1 := r_1
    have raw7_r_2 := r_2
    rw [hw7, hw6, hw5] at raw7_b_0 raw7_p_0 raw7_r_0 raw7_r_1 raw7_r_2
    go_wp2_with fail
    rw [← hw5]
    rw [← hw6]
    rw [← hw7]
    clear hw7 hw6 hw5
    clear raw5_b_0 raw6_b_0 raw6_p_0 raw7_b_0 raw7_p_0 raw7_r_0 raw7_r_1 raw7_r_2
    refine (HC.out _ _ hb7 p_0 rfl).mono ?_
    rintro e w9 ⟨rfl, z9⟩
    have s8 := z9.size
    have hb8 := on hb7 z9
    replace b_0 := (z9.cell (p := ⟨w.heap.size, 0, none⟩) (by simp only []; omega)).trans b_0
    replace b_f0 := (z9.frozen (p := ⟨w.heap.size, 0, none⟩) (by simp only []; omega)).trans b_f0
    replace p_0 := (z9.cell (p := ⟨w.heap.size + 1, 0, none⟩) (by simp only []; omega)).trans p_0
    replace p_f0 := (z9.frozen (p := ⟨w.heap.size + 1, 0, none⟩) (by simp only []; omega)).trans p_f0
    replace r_0 := (z9.cell (p := ⟨w.heap.size + 1 + 1, 0, none⟩) (by simp only []; omega)).trans r_0
    replace r_1 := (z9.cell (p := ⟨w.heap.size + 1 + 1, 1, none⟩) (by simp only []; omega)).trans r_1
    replace r_2 := (z9.cell (p := ⟨w.heap.size + 1 + 1, 2, none⟩) (by simp only []; omega)).trans r_2
    replace r_f0 := (z9.frozen (p := ⟨w.heap.size + 1 + 1, 0, none⟩) (by simp only []; omega)).trans r_f0
    replace r_f1 := (z9.frozen (p := ⟨w.heap.size + 1 + 1, 1, none⟩) (by simp only []; omega)).trans r_f1
    replace r_f2 := (z9.frozen (p := ⟨w.heap.size + 1 + 1, 2, none⟩) (by simp only []; omega)).trans r_f2
    go_wp2_with fail
    refine (HV.out _ hb8).mono ?_
    rintro e w10 ⟨rfl, z10⟩
    have s9 := z10.size
    have hb9 := on hb8 z10
    replace b_0 := (z10.cell (p := ⟨w.heap.size, 0, none⟩) (by simp only []; omega)).trans b_0
    replace b_f0 := (z10.frozen (p := ⟨w.heap.size, 0, none⟩) (by simp only []; omega)).trans b_f0
    replace p_0 := (z10.cell (p := ⟨w.heap.size + 1, 0, none⟩) (by simp only []; omega)).trans p_0
    replace p_f0 := (z10.frozen (p := ⟨w.heap.size + 1, 0, none⟩) (by simp only []; omega)).trans p_f0
    replace r_0 := (z10.cell (p := ⟨w.heap.size + 1 + 1, 0, none⟩) (by simp only []; omega)).trans r_0
    replace r_1 := (z10.cell (p := ⟨w.heap.size + 1 + 1, 1, none⟩) (by simp only []; omega)).trans r_1
    replace r_2 := (z10.cell (p := ⟨w.heap.size + 1 + 1, 2, none⟩) (by simp only []; omega)).trans r_2
    replace r_f0 := (z10.frozen (p := ⟨w.heap.size + 1 + 1, 0, none⟩) (by simp only []; omega)).trans r_f0
    replace r_f1 := (z10.frozen (p := ⟨w.heap.size + 1 + 1, 1, none⟩) (by simp only []; omega)).trans r_f1
    replace r_f2 := (z10.frozen (p := ⟨w.heap.size + 1 + 1, 2, none⟩) (by simp only []; omega)).trans r_f2
    go_wp2_with fail
    refine bodyPost_ret (v := .tuple #[.agg noT, .bool false]) (by simp [results, Try.results149, go_sem, noT, r_0, r_1, r_2, r_f0, r_f1, r_f2]) rfl ⟨rfl, ?_⟩
    repeat (refine Below.setCell ?_ (by simp only []; omega) _)
    exact hb9

set_option maxHeartbeats 1000000 in
theorem lookI_some (cs : List Value) (db : DDb) (name : ByteArray) (t : DT) (w : World) (h : rDb.rep w cs db) (hL : look db name = some t) :
    Calls Try.prog 149 #[.agg cs.toArray, .string name] w fun e w' => ∃ ds, e = .returned (.tuple #[.agg ds.toArray, .bool true]) ∧ Own oT w.heap.size w'.heap.size w' ds t ∧ Below w.heap.size w w' := by
  obtain ⟨ub, un, uc, rfl, g1⟩ := rDb_open h
  have hcall := fun W p (hW : Below w.heap.size w W) hq hs => indexT_any ub un uc db name p W (rTl.mono g1 hW) hq hs
  have hval := fun W (hW : Below w.heap.size w W) => validDb_impl [.slice ub un uc] db W (rDb.mono h hW)
  have hbk := (look_ok hL).bulk
  obtain ⟨k, HI, hk, hv⟩ := look_some_idx hL
  have t1 := rS_sl g1
  have hl := t1.len
  have hn := t1.small
  have hlt : k < un := by rw [← hl]; exact (List.getElem?_eq_some_iff.1 hk).1
  simp only [HI] at hcall
  simp only [hv] at hval
  obtain ⟨b1, o1, cs, t', rfl, hx, hr, hc⟩ := t1.at hlt
  obtain rfl : t' = t := by have h9 := hx.out; rw [hk] at h9; exact (Option.some.inj h9).symm
  have hcp := fun W (hW : Below w.heap.size w W) => copyTable_any cs t' W (rT.mono hr hW) (by omega)
  have HC := Lib.hid hcall
  have HV := Lib.hid hval
  obtain ⟨s, i, rows⟩ := t'
  obtain ⟨tb, tn, tc, rfl, hs, hi, g2⟩ := rT_open hr
  simp only at hs hi g2 hcp
  have HP := Lib.hid hcp
  clear hcall hval HI hL hv hcp h g1 hbk hk hx hr g2 t1 hl
  have hb0 : Below w.heap.size w w := Below.refl _ _
  have e_lt : b1 < w.heap.size := cell_lt (hc 0 _ rfl)
  have e_0 : w.cell? ⟨b1, o1 + k * 3, none⟩ = some (.string s) := (hb0.cell (p := ⟨b1, o1 + k * 3, none⟩) e_lt).trans (by have h9 := hc 0 _ rfl; rw [← Nat.add_assoc] at h9; exact h9)
  have e_1 : w.cell? ⟨b1, o1 + k * 3 + 1, none⟩ = some (.int .i64 i) := (hb0.cell (p := ⟨b1, o1 + k * 3 + 1, none⟩) e_lt).trans (by have h9 := hc 1 _ rfl; rw [← Nat.add_assoc] at h9; exact h9)
  have e_2 : w.cell? ⟨b1, o1 + k * 3 + 2, none⟩ = some (.slice tb tn tc) := (hb0.cell (p := ⟨b1, o1 + k * 3 + 2, none⟩) e_lt).trans (by have h9 := hc 2 _ rfl; rw [← Nat.add_assoc] at h9; exact h9)
  clear hc
  go_enter Try.func149, Try.ntmps149
  obtain ⟨w1, hw1⟩ : ∃ W, W = w.alloc (.cells #[.slice (some ⟨b1, o1, none⟩) un uc] 89) := ⟨_, rfl⟩
  have z1 : Below w.heap.size w w1 := by rw [hw1]; exact (Below.refl _ _).alloc (Nat.le_refl _) _
  have s1 : w1.heap.size = w.heap.size + 1 := by rw [hw1]; simp
  have hb1 := on hb0 z1
  have old1_e_0 := e_0
  have old1_e_1 := e_1
  have old1_e_2 := e_2
  replace e_0 := (z1.cell (p := ⟨b1, o1 + k * 3, none⟩) (by simp only []; omega)).trans e_0
  replace e_1 := (z1.cell (p := ⟨b1, o1 + k * 3 + 1, none⟩) (by simp only []; omega)).trans e_1
  replace e_2 := (z1.cell (p := ⟨b1, o1 + k * 3 + 2, none⟩) (by simp only []; omega)).trans e_2
  have b_0 : w1.cell? ⟨w.heap.size, 0, none⟩ = some (.slice (some ⟨b1, o1, none⟩) un uc) := by rw [hw1]; exact box_cell (Below.refl _ _) rfl
  have b_f0 : w1.frozen? ⟨w.heap.size, 0, none⟩ = false := by rw [hw1]; exact box_frozen (Below.refl _ _)
  have raw1_e_0 := e_0
  have raw1_e_1 := e_1
  have raw1_e_2 := e_2
  have raw1_b_0 := b_0
  rw [hw1] at raw1_e_0 raw1_e_1 raw1_e_2 raw1_b_0
  obtain ⟨w2, hw2⟩ : ∃ W, W = w1.alloc (.cells #[.string name] 9) := ⟨_, rfl⟩
  have z2 : Below w1.heap.size w1 w2 := by rw [hw2]; exact (Below.refl _ _).alloc (Nat.le_refl _) _
  have s2 : w2.heap.size = w1.heap.size + 1 := by rw [hw2]; simp
  have hb2 := on hb1 z2
  replace e_0 := (z2.cell (p := ⟨b1, o1 + k * 3, none⟩) (by simp only []; omega)).trans e_0
  replace e_1 := (z2.cell (p := ⟨b1, o1 + k * 3 + 1, none⟩) (by simp only []; omega)).trans e_1
  replace e_2 := (z2.cell (p := ⟨b1, o1 + k * 3 + 2, none⟩) (by simp only []; omega)).trans e_2
  replace b_0 := (z2.cell (p := ⟨w.heap.size, 0, none⟩) (by simp only []; omega)).trans b_0
  replace b_f0 := (z2.frozen (p := ⟨w.heap.size, 0, none⟩) (by simp only []; omega)).trans b_f0
  have e2 : w1.heap.size = w.heap.size + 1 := by omega
  have p_0 : w2.cell? ⟨w1.heap.size, 0, none⟩ = some (.string name) := by rw [hw2]; exact box_cell (Below.refl _ _) rfl
  rw [e2] at p_0
  have p_f0 : w2.frozen? ⟨w1.heap.size, 0, none⟩ = false := by rw [hw2]; exact box_frozen (Below.refl _ _)
  rw [e2] at p_f0
  have raw2_e_0 := e_0
  have raw2_e_1 := e_1
  have raw2_e_2 := e_2
  have raw2_b_0 := b_0
  have raw2_p_0 := p_0
  rw [hw2, hw1] at raw2_e_0 raw2_e_1 raw2_e_2 raw2_b_0 raw2_p_0
  obtain ⟨w3, hw3⟩ : ∃ W, W = w2.alloc (.cells #[.string ⟨#[]⟩, .int .i64 0, .slice none 0 0] 34) := ⟨_, rfl⟩
  have z3 : Below w2.heap.size w2 w3 := by rw [hw3]; exact (Below.refl _ _).alloc (Nat.le_refl _) _
  have s3 : w3.heap.size = w2.heap.size + 1 := by rw [hw3]; simp
  have hb3 := on hb2 z3
  replace e_0 := (z3.cell (p := ⟨b1, o1 + k * 3, none⟩) (by simp only []; omega)).trans e_0
  replace e_1 := (z3.cell (p := ⟨b1, o1 + k * 3 + 1, none⟩) (by simp only []; omega)).trans e_1
  replace e_2 := (z3.cell (p := ⟨b1, o1 + k * 3 + 2, none⟩) (by simp only []; omega)).trans e_2
  replace b_0 := (z3.cell (p := ⟨w.heap.size, 0, none⟩) (by simp only []; omega)).trans b_0
  replace b_f0 := (z3.frozen (p := ⟨w.heap.size, 0, none⟩) (by simp only []; omega)).trans b_f0
  replace p_0 := (z3.cell (p := ⟨w.heap.size + 1, 0, none⟩) (by simp only []; omega)).trans p_0
  replace p_f0 := (z3.frozen (p := ⟨w.heap.size + 1, 0, none⟩) (by simp only []; omega)).trans p_f0
  have e3 : w2.heap.size = w.heap.size + 1 + 1 := by omega
  have r_0 : w3.cell? ⟨w2.heap.size, 0, none⟩ = some (.string ⟨#[]⟩) := by rw [hw3]; exact box_cell (Below.refl _ _) rfl
  have r_1 : w3.cell? ⟨w2.heap.size, 1, none⟩ = some (.int .i64 0) := by rw [hw3]; exact box_cell (Below.refl _ _) rfl
  have r_2 : w3.cell? ⟨w2.heap.size, 2, none⟩ = some (.slice none 0 0) := by rw [hw3]; exact box_cell (Below.refl _ _) rfl
  rw [e3] at r_0 r_1 r_2
  have r_f0 : w3.frozen? ⟨w2.heap.size, 0, none⟩ = false := by rw [hw3]; exact box_frozen (Below.refl _ _)
  have r_f1 : w3.frozen? ⟨w2.heap.size, 1, none⟩ = false := by rw [hw3]; exact box_frozen (Below.refl _ _)
  have r_f2 : w3.frozen? ⟨w2.heap.size, 2, none⟩ = false := by rw [hw3]; exact box_frozen (Below.refl _ _)
  rw [e3] at r_f0 r_f1 r_f2
  have raw3_e_0 := e_0
  have raw3_e_1 := e_1
  have raw3_e_2 := e_2
  have raw3_b_0 := b_0
  have raw3_p_0 := p_0
  have raw3_r_0 := r_0
  have raw3_r_1 := r_1
  have raw3_r_2 := r_2
  rw [hw3, hw2, hw1] at raw3_e_0 raw3_e_1 raw3_e_2 raw3_b_0 raw3_p_0 raw3_r_0 raw3_r_1 raw3_r_2
  go_wp2_with fail
  rw [← hw1]
  rw [← hw2]
  rw [← hw3]
  clear hw3 hw2 hw1
  clear old1_e_0 old1_e_1 old1_e_2 raw1_e_0 raw1_e_1 raw1_e_2 raw1_b_0 raw2_e_0 raw2_e_1 raw2_e_2 raw2_b_0 raw2_p_0 raw3_e_0 raw3_e_1 raw3_e_2 raw3_b_0 raw3_p_0 raw3_r_0 raw3_r_1 raw3_r_2
  refine (HC.out _ _ hb3 p_0 rfl).mono ?_
  rintro e w9 ⟨rfl, z9⟩
  have s4 := z9.size
  have hb4 := on hb3 z9
  replace e_0 := (z9.cell (p := ⟨b1, o1 + k * 3, none⟩) (by simp only []; omega)).trans e_0
  replace e_1 := (z9.cell (p := ⟨b1, o1 + k * 3 + 1, none⟩) (by simp only []; omega)).trans e_1
  replace e_2 := (z9.cell (p := ⟨b1, o1 + k * 3 + 2, none⟩) (by simp only []; omega)).trans e_2
  replace b_0 := (z9.cell (p := ⟨w.heap.size, 0, none⟩) (by simp only []; omega)).trans b_0
  replace b_f0 := (z9.frozen (p := ⟨w.heap.size, 0, none⟩) (by simp only []; omega)).trans b_f0
  replace p_0 := (z9.cell (p := ⟨w.heap.size + 1, 0, none⟩) (by simp only []; omega)).trans p_0
  replace p_f0 := (z9.frozen (p := ⟨w.heap.size + 1, 0, none⟩) (by simp only []; omega)).trans p_f0
  replace r_0 := (z9.cell (p := ⟨w.heap.size + 1 + 1, 0, none⟩) (by simp only []; omega)).trans r_0
  replace r_1 := (z9.cell (p := ⟨w.heap.size + 1 + 1, 1, none⟩) (by simp only []; omega)).trans r_1
  replace r_2 := (z9.cell (p := ⟨w.heap.size + 1 + 1, 2, none⟩) (by simp only []; omega)).trans r_2
  replace r_f0 := (z9.frozen (p := ⟨w.heap.size + 1 + 1, 0, none⟩) (by simp only []; omega)).trans r_f0
  replace r_f1 := (z9.frozen (p := ⟨w.heap.size + 1 + 1, 1, none⟩) (by simp only []; omega)).trans r_f1
  replace r_f2 := (z9.frozen (p := ⟨w.heap.size + 1 + 1, 2, none⟩) (by simp only []; omega)).trans r_f2
  go_wp2_with fail
  refine (HV.out _ hb4).mono ?_
  rintro e w10 ⟨rfl, z10⟩
  have s5 := z10.size
  have hb5 := on hb4 z10
  replace e_0 := (z10.cell (p := ⟨b1, o1 + k * 3, none⟩) (by simp only []; omega)).trans e_0
  replace e_1 := (z10.cell (p := ⟨b1, o1 + k * 3 + 1, none⟩) (by simp only []; omega)).trans e_1
  replace e_2 := (z10.cell (p := ⟨b1, o1 + k * 3 + 2, none⟩) (by simp only []; omega)).trans e_2
  replace b_0 := (z10.cell (p := ⟨w.heap.size, 0, none⟩) (by simp only []; omega)).trans b_0
  replace b_f0 := (z10.frozen (p := ⟨w.heap.size, 0, none⟩) (by simp only []; omega)).trans b_f0
  replace p_0 := (z10.cell (p := ⟨w.heap.size + 1, 0, none⟩) (by simp only []; omega)).trans p_0
  replace p_f0 := (z10.frozen (p := ⟨w.heap.size + 1, 0, none⟩) (by simp only []; omega)).trans p_f0
  replace r_0 := (z10.cell (p := ⟨w.heap.size + 1 + 1, 0, none⟩) (by simp only []; omega)).trans r_0
  replace r_1 := (z10.cell (p := ⟨w.heap.size + 1 + 1, 1, none⟩) (by simp only []; omega)).trans r_1
  replace r_2 := (z10.cell (p := ⟨w.heap.size + 1 + 1, 2, none⟩) (by simp only []; omega)).trans r_2
  replace r_f0 := (z10.frozen (p := ⟨w.heap.size + 1 + 1, 0, none⟩) (by simp only []; omega)).trans r_f0
  replace r_f1 := (z10.frozen (p := ⟨w.heap.size + 1 + 1, 1, none⟩) (by simp only []; omega)).trans r_f1
  replace r_f2 := (z10.frozen (p := ⟨w.heap.size + 1 + 1, 2, none⟩) (by simp only []; omega)).trans r_f2
  go_wp2_with fail
  refine (HP.out _ hb5).mono ?_
  rintro e w11 ⟨ds, rfl, ho, z11⟩
  obtain ⟨vb, vn, vc, rfl⟩ := oT_form ho
  simp only at ho
  have s6 := z11.size
  have hb6 := on hb5 z11
  replace e_0 := (z11.cell (p := ⟨b1, o1 + k * 3, none⟩) (by simp only []; omega)).trans e_0
  replace e_1 := (z11.cell (p := ⟨b1, o1 + k * 3 + 1, none⟩) (by simp only []; omega)).trans e_1
  replace e_2 := (z11.cell (p := ⟨b1, o1 + k * 3 + 2, none⟩) (by simp only []; omega)).trans e_2
  replace b_0 := (z11.cell (p := ⟨w.heap.size, 0, none⟩) (by simp only []; omega)).trans b_0
  replace b_f0 := (z11.frozen (p := ⟨w.heap.size, 0, none⟩) (by simp only []; omega)).trans b_f0
  replace p_0 := (z11.cell (p := ⟨w.heap.size + 1, 0, none⟩) (by simp only []; omega)).trans p_0
  replace p_f0 := (z11.frozen (p := ⟨w.heap.size + 1, 0, none⟩) (by simp only []; omega)).trans p_f0
  replace r_0 := (z11.cell (p := ⟨w.heap.size + 1 + 1, 0, none⟩) (by simp only []; omega)).trans r_0
  replace r_1 := (z11.cell (p := ⟨w.heap.size + 1 + 1, 1, none⟩) (by simp only []; omega)).trans r_1
  replace r_2 := (z11.cell (p := ⟨w.heap.size + 1 + 1, 2, none⟩) (by simp only []; omega)).trans r_2
  replace r_f0 := (z11.frozen (p := ⟨w.heap.size + 1 + 1, 0, none⟩) (by simp only []; omega)).trans r_f0
  replace r_f1 := (z11.frozen (p := ⟨w.heap.size + 1 + 1, 1, none⟩) (by simp only []; omega)).trans r_f1
  replace r_f2 := (z11.frozen (p := ⟨w.heap.size + 1 + 1, 2, none⟩) (by simp only []; omega)).trans r_f2
  go_wp2_with fail
  refine bodyPost_ret (v := .tuple #[.agg #[.string s, .int .i64 i, .slice vb vn vc], .bool true]) (by simp [results, Try.results149, go_sem, r_0, r_1, r_2, r_f0, r_f1, r_f2]) rfl ⟨_, rfl, ?_, ?_⟩
  · refine Own.mono (lo := w10.heap.size) (hi := w11.heap.size) ?_ (by omega) (by simp [World.setCell])
    repeat (refine Own.setOut ?_ rfl (by simp only []; omega))
    exact ho
  · repeat (refine Below.setCell ?_ (by simp only []; omega) _)
    exact hb6

end Go.Proofs.Ytbkoddikfpkocaa

/- Contracts: tables looked up (3), the reference. -/
namespace Go.Proofs.Ytbkoddikfpkocaa
open Go.RowKit Go.Sort
set_option linter.unusedVariables false
set_option linter.unusedSimpArgs false
set_option synthInstance.maxSize 2000
set_option synthInstance.maxHeartbeats 400000

theorem look_none_valid {db : DDb} {name : ByteArray} (h : look db name = none) (hv : validDb db = true) : idxFrom name 0 db = -1 := by
  rcases look_none_idx h with h1 | ⟨k, h1, h2⟩
  · exact h1
  · rw [hv] at h2; cases h2

set_option maxHeartbeats 1000000 in
theorem lookS_none (cs : List Value) (db : DDb) (name : ByteArray) (w : World) (h : rDb.rep w cs db) (hL : look db name = none) :
    Calls Try.prog 148 #[.agg cs.toArray, .string name] w fun e w' => e = .returned (.tuple #[.agg noT, .bool false]) ∧ Below w.heap.size w w' := by
  obtain ⟨ub, un, uc, rfl, g1⟩ := rDb_open h
  have hval := fun W (hW : Below w.heap.size w W) => validDb_spec [.slice ub un uc] db W (rDb.mono h hW)
  have t1 := rS_sl g1
  have hl := t1.len
  have hn := t1.small
  have HL := Lib.hid hl
  obtain ⟨q, hq⟩ : ∃ q, validDb db = q := ⟨_, rfl⟩
  simp only [hq] at hval
  have HV := Lib.hid hval
  have HQ : Hid (q = true → idxFrom name 0 db = -1) := Lib.hid (fun h9 => look_none_valid hL (hq.trans h9))
  have HE0 : Hid (idxFrom name 0 db = idxFrom name 0 (db.drop 0)) := rfl
  clear hval hL hq h g1 hl
  have hb0 : Below w.heap.size w w := Below.refl _ _
  go_enter Try.func148, Try.ntmps148
  obtain ⟨w1, hw1⟩ : ∃ W, W = w.alloc (.cells #[.slice ub un uc] 89) := ⟨_, rfl⟩
  have z1 : Below w.heap.size w w1 := by rw [hw1]; exact (Below.refl _ _).alloc (Nat.le_refl _) _
  have s1 : w1.heap.size = w.heap.size + 1 := by rw [hw1]; simp
  have hb1 := on hb0 z1
  have b_0 : w1.cell? ⟨w.heap.size, 0, none⟩ = some (.slice ub un uc) := by rw [hw1]; exact box_cell (Below.refl _ _) rfl
  have b_f0 : w1.frozen? ⟨w.heap.size, 0, none⟩ = false := by rw [hw1]; exact box_frozen (Below.refl _ _)
  have raw1_b_0 := b_0
  rw [hw1] at raw1_b_0
  obtain ⟨w2, hw2⟩ : ∃ W, W = w1.alloc (.cells #[.string ⟨#[]⟩, .int .i64 0, .slice none 0 0] 34) := ⟨_, rfl⟩
  have z2 : Below w1.heap.size w1 w2 := by rw [hw2]; exact (Below.refl _ _).alloc (Nat.le_refl _) _
  have s2 : w2.heap.size = w1.heap.size + 1 := by rw [hw2]; simp
  have hb2 := on hb1 z2
  replace b_0 := (z2.cell (p := ⟨w.heap.size, 0, none⟩) (by simp only []; omega)).trans b_0
  replace b_f0 := (z2.frozen (p := ⟨w.heap.size, 0, none⟩) (by simp only []; omega)).trans b_f0
  have e2 : w1.heap.size = w.heap.size + 1 := by omega
  have r_0 : w2.cell? ⟨w1.heap.size, 0, none⟩ = some (.string ⟨#[]⟩) := by rw [hw2]; exact box_cell (Below.refl _ _) rfl
  have r_1 : w2.cell? ⟨w1.heap.size, 1, none⟩ = some (.int .i64 0) := by rw [hw2]; exact box_cell (Below.refl _ _) rfl
  have r_2 : w2.cell? ⟨w1.heap.size, 2, none⟩ = some (.slice none 0 0) := by rw [hw2]; exact box_cell (Below.refl _ _) rfl
  rw [e2] at r_0 r_1 r_2
  have r_f0 : w2.frozen? ⟨w1.heap.size, 0, none⟩ = false := by rw [hw2]; exact box_frozen (Below.refl _ _)
  have r_f1 : w2.frozen? ⟨w1.heap.size, 1, none⟩ = false := by rw [hw2]; exact box_frozen (Below.refl _ _)
  have r_f2 : w2.frozen? ⟨w1.heap.size, 2, none⟩ = false := by rw [hw2]; exact box_frozen (Below.refl _ _)
  rw [e2] at r_f0 r_f1 r_f2
  have raw2_b_0 := b_0
  have raw2_r_0 := r_0
  have raw2_r_1 := r_1
  have raw2_r_2 := r_2
  rw [hw2, hw1] at raw2_b_0 raw2_r_0 raw2_r_1 raw2_r_2
  go_wp2_with fail
  rw [← hw1]
  rw [← hw2]
  clear hw2 hw1
  clear raw1_b_0 raw2_b_0 raw2_r_0 raw2_r_1 raw2_r_2
  go_loopw [6] (fun k wr => ∃ j : Nat, j ≤ un ∧ k = .int .i64 j ∧ Hid (idxFrom name 0 db = idxFrom name j (db.drop j)) ∧ Below w2.heap.size w2 wr) (fun k _ => un - (intOf k).toNat)
  case atStart => exact ⟨0, Nat.zero_le _, rfl, HE0.out, Below.refl _ _⟩
  case round =>
    obtain ⟨j, hj, rfl, hE, hdr⟩ := hrel
    obtain ⟨wo, rfl⟩ : ∃ W, W = wr := ⟨_, rfl⟩
    have hlc := hdr
    have s3 := hdr.size
    have hb3 := on hb2 hdr
    replace b_0 := (hdr.cell (p := ⟨w.heap.size, 0, none⟩) (by simp only []; omega)).trans b_0
    replace b_f0 := (hdr.frozen (p := ⟨w.heap.size, 0, none⟩) (by simp only []; omega)).trans b_f0
    replace r_0 := (hdr.cell (p := ⟨w.heap.size + 1, 0, none⟩) (by simp only []; omega)).trans r_0
    replace r_1 := (hdr.cell (p := ⟨w.heap.size + 1, 1, none⟩) (by simp only []; omega)).trans r_1
    replace r_2 := (hdr.cell (p := ⟨w.heap.size + 1, 2, none⟩) (by simp only []; omega)).trans r_2
    replace r_f0 := (hdr.frozen (p := ⟨w.heap.size + 1, 0, none⟩) (by simp only []; omega)).trans r_f0
    replace r_f1 := (hdr.frozen (p := ⟨w.heap.size + 1, 1, none⟩) (by simp only []; omega)).trans r_f1
    replace r_f2 := (hdr.frozen (p := ⟨w.heap.size + 1, 2, none⟩) (by simp only []; omega)).trans r_f2
    by_cases hlt : j < un
    · go_wp2_with fail
      refine (HV.out _ hb3).mono ?_
      rintro e w9 ⟨rfl, z9⟩
      have s4 := z9.size
      have hb4 := on hb3 z9
      replace b_0 := (z9.cell (p := ⟨w.heap.size, 0, none⟩) (by simp only []; omega)).trans b_0
      replace b_f0 := (z9.frozen (p := ⟨w.heap.size, 0, none⟩) (by simp only []; omega)).trans b_f0
      replace r_0 := (z9.cell (p := ⟨w.heap.size + 1, 0, none⟩) (by simp only []; omega)).trans r_0
      replace r_1 := (z9.cell (p := ⟨w.heap.size + 1, 1, none⟩) (by simp only []; omega)).trans r_1
      replace r_2 := (z9.cell (p := ⟨w.heap.size + 1, 2, none⟩) (by simp only []; omega)).trans r_2
      replace r_f0 := (z9.frozen (p := ⟨w.heap.size + 1, 0, none⟩) (by simp only []; omega)).trans r_f0
      replace r_f1 := (z9.frozen (p := ⟨w.heap.size + 1, 1, none⟩) (by simp only []; omega)).trans r_f1
      replace r_f2 := (z9.frozen (p := ⟨w.heap.size + 1, 2, none⟩) (by simp only []; omega)).trans r_f2
      replace hlc := on hlc z9
      cases q with
      | false =>
        go_wp2_with fail
        refine bodyPost_ret (v := .tuple #[.agg noT, .bool false]) (by simp [results, Try.results148, go_sem, noT, r_0, r_1, r_2, r_f0, r_f1, r_f2]) rfl ⟨rfl, ?_⟩
        repeat (refine Below.setCell ?_ (by simp only []; omega) _)
        exact hb4
      | true =>
        obtain ⟨b1, o1, cs, t, rfl, hx, hr, hc⟩ := t1.at hlt
        have hne : t.1 ≠ name := fun h9 => by have h8 := hE.out.trans (idxFrom_yes hx.out h9); rw [HQ.out rfl] at h8; omega
        have HE : Hid (idxFrom name 0 db = idxFrom name (j + 1) (db.drop (j + 1))) := Lib.hid (hE.out.trans (idxFrom_no hx.out hne))
        have hq9 := bytes_ne hne
        obtain ⟨s, i, rows⟩ := t
        obtain ⟨tb, tn, tc, rfl, hs, hi, g2⟩ := rT_open hr
        simp only at hs hi g2 hq9
        have e_lt : b1 < w.heap.size := cell_lt (hc 0 _ rfl)
        have e_0 : w9.cell? ⟨b1, o1 + j * 3, none⟩ = some (.string s) := (hb4.cell (p := ⟨b1, o1 + j * 3, none⟩) e_lt).trans (by have h9 := hc 0 _ rfl; rw [← Nat.add_assoc] at h9; exact h9)
        have e_1 : w9.cell? ⟨b1, o1 + j * 3 + 1, none⟩ = some (.int .i64 i) := (hb4.cell (p := ⟨b1, o1 + j * 3 + 1, none⟩) e_lt).trans (by have h9 := hc 1 _ rfl; rw [← Nat.add_assoc] at h9; exact h9)
        have e_2 : w9.cell? ⟨b1, o1 + j * 3 + 2, none⟩ = some (.slice tb tn tc) := (hb4.cell (p := ⟨b1, o1 + j * 3 + 2, none⟩) e_lt).trans (by have h9 := hc 2 _ rfl; rw [← Nat.add_assoc] at h9; exact h9)
        clear hE hx hr hc g2 t1 hs hi hne
        go_wp2_with fail
        go_roundw
        case rel => exact ⟨j + 1, by omega, by go_num, HE.out, hlc⟩
        case measure => simp [intOf]; omega
    · go_wp2_with fail
      refine bodyPost_ret (v := .tuple #[.agg noT, .bool false]) (by simp [results, Try.results148, go_sem, noT, r_0, r_1, r_2, r_f0, r_f1, r_f2]) rfl ⟨rfl, ?_⟩
      repeat (refine Below.setCell ?_ (by simp only []; omega) _)
      exact hb3

set_option maxHeartbeats 1000000 in
theorem lookS_some (cs : List Value) (db : DDb) (name : ByteArray) (t : DT) (w : World) (h : rDb.rep w cs db) (hL : look db name = some t) :
    Calls Try.prog 148 #[.agg cs.toArray, .string name] w fun e w' => ∃ ds, e = .returned (.tuple #[.agg ds.toArray, .bool true]) ∧ Own oT w.heap.size w'.heap.size w' ds t ∧ Below w.heap.size w w' := by
  obtain ⟨ub, un, uc, rfl, g1⟩ := rDb_open h
  have hval := fun W (hW : Below w.heap.size w W) => validDb_spec [.slice ub un uc] db W (rDb.mono h hW)
  have hbk := (look_ok hL).bulk
  obtain ⟨k, HI, hk, hv⟩ := look_some_idx hL
  have t1 := rS_sl g1
  have hl := t1.len
  have hn := t1.small
  have hkn : k < un := by rw [← hl]; exact (List.getElem?_eq_some_iff.1 hk).1
  have HL := Lib.hid hl
  simp only [hv] at hval
  have HV := Lib.hid hval
  have HK := Lib.hid hk
  have HI := Lib.hid HI
  have HE0 : Hid (idxFrom name 0 db = idxFrom name 0 (db.drop 0)) := rfl
  clear hval hL hv hk h g1 hl
  have hb0 : Below w.heap.size w w := Below.refl _ _
  go_enter Try.func148, Try.ntmps148
  obtain ⟨w1, hw1⟩ : ∃ W, W = w.alloc (.cells #[.slice ub un uc] 89) := ⟨_, rfl⟩
  have z1 : Below w.heap.size w w1 := by rw [hw1]; exact (Below.refl _ _).alloc (Nat.le_refl _) _
  have s1 : w1.heap.size = w.heap.size + 1 := by rw [hw1]; simp
  have hb1 := on hb0 z1
  have b_0 : w1.cell? ⟨w.heap.size, 0, none⟩ = some (.slice ub un uc) := by rw [hw1]; exact box_cell (Below.refl _ _) rfl
  have b_f0 : w1.frozen? ⟨w.heap.size, 0, none⟩ = false := by rw [hw1]; exact box_frozen (Below.refl _ _)
  have raw1_b_0 := b_0
  rw [hw1] at raw1_b_0
  obtain ⟨w2, hw2⟩ : ∃ W, W = w1.alloc (.cells #[.string ⟨#[]⟩, .int .i64 0, .slice none 0 0] 34) := ⟨_, rfl⟩
  have z2 : Below w1.heap.size w1 w2 := by rw [hw2]; exact (Below.refl _ _).alloc (Nat.le_refl _) _
  have s2 : w2.heap.size = w1.heap.size + 1 := by rw [hw2]; simp
  have hb2 := on hb1 z2
  replace b_0 := (z2.cell (p := ⟨w.heap.size, 0, none⟩) (by simp only []; omega)).trans b_0
  replace b_f0 := (z2.frozen (p := ⟨w.heap.size, 0, none⟩) (by simp only []; omega)).trans b_f0
  have e2 : w1.heap.size = w.heap.size + 1 := by omega
  have r_0 : w2.cell? ⟨w1.heap.size, 0, none⟩ = some (.string ⟨#[]⟩) := by rw [hw2]; exact box_cell (Below.refl _ _) rfl
  have r_1 : w2.cell? ⟨w1.heap.size, 1, none⟩ = some (.int .i64 0) := by rw [hw2]; exact box_cell (Below.refl _ _) rfl
  have r_2 : w2.cell? ⟨w1.heap.size, 2, none⟩ = some (.slice none 0 0) := by rw [hw2]; exact box_cell (Below.refl _ _) rfl
  rw [e2] at r_0 r_1 r_2
  have r_f0 : w2.frozen? ⟨w1.heap.size, 0, none⟩ = false := by rw [hw2]; exact box_frozen (Below.refl _ _)
  have r_f1 : w2.frozen? ⟨w1.heap.size, 1, none⟩ = false := by rw [hw2]; exact box_frozen (Below.refl _ _)
  have r_f2 : w2.frozen? ⟨w1.heap.size, 2, none⟩ = false := by rw [hw2]; exact box_frozen (Below.refl _ _)
  rw [e2] at r_f0 r_f1 r_f2
  have raw2_b_0 := b_0
  have raw2_r_0 := r_0
  have raw2_r_1 := r_1
  have raw2_r_2 := r_2
  rw [hw2, hw1] at raw2_b_0 raw2_r_0 raw2_r_1 raw2_r_2
  go_wp2_with fail
  rw [← hw1]
  rw [← hw2]
  clear hw2 hw1
  clear raw1_b_0 raw2_b_0 raw2_r_0 raw2_r_1 raw2_r_2
  go_loopw [6] (fun k wr => ∃ j : Nat, j ≤ un ∧ k = .int .i64 j ∧ Hid (idxFrom name 0 db = idxFrom name j (db.drop j)) ∧ Below w2.heap.size w2 wr) (fun k _ => un - (intOf k).toNat)
  case atStart => exact ⟨0, Nat.zero_le _, rfl, HE0.out, Below.refl _ _⟩
  case round =>
    obtain ⟨j, hj, rfl, hE, hdr⟩ := hrel
    obtain ⟨wo, rfl⟩ : ∃ W, W = wr := ⟨_, rfl⟩
    have hlc := hdr
    have s3 := hdr.size
    have hb3 := on hb2 hdr
    replace b_0 := (hdr.cell (p := ⟨w.heap.size, 0, none⟩) (by simp only []; omega)).trans b_0
    replace b_f0 := (hdr.frozen (p := ⟨w.heap.size, 0, none⟩) (by simp only []; omega)).trans b_f0
    replace r_0 := (hdr.cell (p := ⟨w.heap.size + 1, 0, none⟩) (by simp only []; omega)).trans r_0
    replace r_1 := (hdr.cell (p := ⟨w.heap.size + 1, 1, none⟩) (by simp only []; omega)).trans r_1
    replace r_2 := (hdr.cell (p := ⟨w.heap.size + 1, 2, none⟩) (by simp only []; omega)).trans r_2
    replace r_f0 := (hdr.frozen (p := ⟨w.heap.size + 1, 0, none⟩) (by simp only []; omega)).trans r_f0
    replace r_f1 := (hdr.frozen (p := ⟨w.heap.size + 1, 1, none⟩) (by simp only []; omega)).trans r_f1
    replace r_f2 := (hdr.frozen (p := ⟨w.heap.size + 1, 2, none⟩) (by simp only []; omega)).trans r_f2
    by_cases hlt : j < un
    · go_wp2_with fail
      refine (HV.out _ hb3).mono ?_
      rintro e w9 ⟨rfl, z9⟩
      have s4 := z9.size
      have hb4 := on hb3 z9
      replace b_0 := (z9.cell (p := ⟨w.heap.size, 0, none⟩) (by simp only []; omega)).trans b_0
      replace b_f0 := (z9.frozen (p := ⟨w.heap.size, 0, none⟩) (by simp only []; omega)).trans b_f0
      replace r_0 := (z9.cell (p := ⟨w.heap.size + 1, 0, none⟩) (by simp only []; omega)).trans r_0
      replace r_1 := (z9.cell (p := ⟨w.heap.size + 1, 1, none⟩) (by simp only []; omega)).trans r_1
      replace r_2 := (z9.cell (p := ⟨w.heap.size + 1, 2, none⟩) (by simp only []; omega)).trans r_2
      replace r_f0 := (z9.frozen (p := ⟨w.heap.size + 1, 0, none⟩) (by simp only []; omega)).trans r_f0
      replace r_f1 := (z9.frozen (p := ⟨w.heap.size + 1, 1, none⟩) (by simp only []; omega)).trans r_f1
      replace r_f2 := (z9.frozen (p := ⟨w.heap.size + 1, 2, none⟩) (by simp only []; omega)).trans r_f2
      replace hlc := on hlc z9
      obtain ⟨b1, o1, cs, t', rfl, hx, hr, hc⟩ := t1.at hlt
      by_cases hne : t'.1 = name
      · have h8 := hE.out.trans (idxFrom_yes hx.out hne)
        rw [HI.out] at h8
        obtain rfl : k = j := by omega
        obtain rfl : t' = t := by have h9 := hx.out; rw [HK.out] at h9; exact (Option.some.inj h9).symm
        have hcp := fun W (hW : Below w.heap.size w W) => l4Copy_any cs t' W (rT.mono hr hW) (by omega)
        have hq9 : (t'.1.toList == name.toList) = true := by rw [hne]; simp
        obtain ⟨s, i, rows⟩ := t'
        obtain ⟨tb, tn, tc, rfl, hs, hi, g2⟩ := rT_open hr
        simp only at hs hi g2 hcp hq9
        have HP := Lib.hid hcp
        have e_lt : b1 < w.heap.size := cell_lt (hc 0 _ rfl)
        have e_0 : w9.cell? ⟨b1, o1 + k * 3, none⟩ = some (.string s) := (hb4.cell (p := ⟨b1, o1 + k * 3, none⟩) e_lt).trans (by have h9 := hc 0 _ rfl; rw [← Nat.add_assoc] at h9; exact h9)
        have e_1 : w9.cell? ⟨b1, o1 + k * 3 + 1, none⟩ = some (.int .i64 i) := (hb4.cell (p := ⟨b1, o1 + k * 3 + 1, none⟩) e_lt).trans (by have h9 := hc 1 _ rfl; rw [← Nat.add_assoc] at h9; exact h9)
        have e_2 : w9.cell? ⟨b1, o1 + k * 3 + 2, none⟩ = some (.slice tb tn tc) := (hb4.cell (p := ⟨b1, o1 + k * 3 + 2, none⟩) e_lt).trans (by have h9 := hc 2 _ rfl; rw [← Nat.add_assoc] at h9; exact h9)
        clear hcp hE hx hr hc g2 t1 hs hi hne h8
        go_wp2_with fail
        refine (HP.out _ hb4).mono ?_
        rintro e w11 ⟨ds, rfl, ho, z11⟩
        obtain ⟨vb, vn, vc, rfl⟩ := oT_form ho
        simp only at ho
        have s5 := z11.size
        have hb5 := on hb4 z11
        replace b_0 := (z11.cell (p := ⟨w.heap.size, 0, none⟩) (by simp only []; omega)).trans b_0
        replace b_f0 := (z11.frozen (p := ⟨w.heap.size, 0, none⟩) (by simp only []; omega)).trans b_f0
        replace r_0 := (z11.cell (p := ⟨w.heap.size + 1, 0, none⟩) (by simp only []; omega)).trans r_0
        replace r_1 := (z11.cell (p := ⟨w.heap.size + 1, 1, none⟩) (by simp only []; omega)).trans r_1
        replace r_2 := (z11.cell (p := ⟨w.heap.size + 1, 2, none⟩) (by simp only []; omega)).trans r_2
        replace r_f0 := (z11.frozen (p := ⟨w.heap.size + 1, 0, none⟩) (by simp only []; omega)).trans r_f0
        replace r_f1 := (z11.frozen (p := ⟨w.heap.size + 1, 1, none⟩) (by simp only []; omega)).trans r_f1
        replace r_f2 := (z11.frozen (p := ⟨w.heap.size + 1, 2, none⟩) (by simp only []; omega)).trans r_f2
        replace hlc := on hlc z11
        replace e_0 := (z11.cell (p := ⟨b1, o1 + k * 3, none⟩) (by simp only []; omega)).trans e_0
        replace e_1 := (z11.cell (p := ⟨b1, o1 + k * 3 + 1, none⟩) (by simp only []; omega)).trans e_1
        replace e_2 := (z11.cell (p := ⟨b1, o1 + k * 3 + 2, none⟩) (by simp only []; omega)).trans e_2
        go_wp2_with fail
        refine bodyPost_ret (v := .tuple #[.agg #[.string s, .int .i64 i, .slice vb vn vc], .bool true]) (by simp [results, Try.results148, go_sem, r_0, r_1, r_2, r_f0, r_f1, r_f2]) rfl ⟨_, rfl, ?_, ?_⟩
        · refine Own.mono (lo := w9.heap.size) (hi := w11.heap.size) ?_ (by omega) (by simp [World.setCell])
          repeat (refine Own.setOut ?_ rfl (by simp only []; omega))
          exact ho
        · repeat (refine Below.setCell ?_ (by simp only []; omega) _)
          exact hb5
      · have HE : Hid (idxFrom name 0 db = idxFrom name (j + 1) (db.drop (j + 1))) := Lib.hid (hE.out.trans (idxFrom_no hx.out hne))
        have hq9 := bytes_ne hne
        obtain ⟨s, i, rows⟩ := t'
        obtain ⟨tb, tn, tc, rfl, hs, hi, g2⟩ := rT_open hr
        simp only at hs hi g2 hq9
        have e_lt : b1 < w.heap.size := cell_lt (hc 0 _ rfl)
        have e_0 : w9.cell? ⟨b1, o1 + j * 3, none⟩ = some (.string s) := (hb4.cell (p := ⟨b1, o1 + j * 3, none⟩) e_lt).trans (by have h9 := hc 0 _ rfl; rw [← Nat.add_assoc] at h9; exact h9)
        have e_1 : w9.cell? ⟨b1, o1 + j * 3 + 1, none⟩ = some (.int .i64 i) := (hb4.cell (p := ⟨b1, o1 + j * 3 + 1, none⟩) e_lt).trans (by have h9 := hc 1 _ rfl; rw [← Nat.add_assoc] at h9; exact h9)
        have e_2 : w9.cell? ⟨b1, o1 + j * 3 + 2, none⟩ = some (.slice tb tn tc) := (hb4.cell (p := ⟨b1, o1 + j * 3 + 2, none⟩) e_lt).trans (by have h9 := hc 2 _ rfl; rw [← Nat.add_assoc] at h9; exact h9)
        clear hE hx hr hc g2 t1 hs hi hne
        go_wp2_with fail
        go_roundw
        case rel => exact ⟨j + 1, by omega, by go_num, HE.out, hlc⟩
        case measure => simp [intOf]; omega
    · have h8 := hE.out.trans (idxFrom_end (by have := HL.out; omega))
      rw [HI.out] at h8
      omega

end Go.Proofs.Ytbkoddikfpkocaa

/- Contracts: tables looked up (4): one contract a side. -/
namespace Go.Proofs.Ytbkoddikfpkocaa
open Go.RowKit Go.Sort
set_option linter.unusedVariables false
set_option linter.unusedSimpArgs false
set_option synthInstance.maxSize 2000
set_option synthInstance.maxHeartbeats 400000

/-- The table that is handed back. -/
def lookT (o : Option DT) : DT := o.getD (⟨#[]⟩, 0, [])
theorem lookT_ar {db : DDb} {name : ByteArray} : 0 ≤ (lookT (look db name)).2.1 ∧ (lookT (look db name)).2.1 ≤ 3 := by
  cases h : look db name with
  | none => simp [lookT]
  | some t => have := (look_ok h).ar; simp only [lookT, Option.getD_some]; omega
theorem own_noT (lo hi : Nat) (w : World) : Own oT lo hi w [.string ⟨#[]⟩, .int .i64 0, .slice none 0 0] (⟨#[]⟩, 0, []) :=
  oT_mk (x := (⟨#[]⟩, 0, [])) (by decide) (show I64 0 from by unfold I64; omega) (l2 := lo) (m2 := hi) (Acc.nil (lo := lo) (S := lo) (hi := hi) |>.own (Nat.le_refl _) (Nat.le_refl _) (Nat.le_refl _)) (Nat.le_refl _) (Nat.le_refl _)

theorem lookI_any (cs : List Value) (db : DDb) (name : ByteArray) (w : World) (h : rDb.rep w cs db) :
    Calls Try.prog 149 #[.agg cs.toArray, .string name] w fun e w' => ∃ vb vn vc, e = .returned (.tuple #[.agg #[.string (lookT (look db name)).1, .int .i64 (lookT (look db name)).2.1, .slice vb vn vc], .bool (look db name).isSome]) ∧ Own oT w.heap.size w'.heap.size w' [.string (lookT (look db name)).1, .int .i64 (lookT (look db name)).2.1, .slice vb vn vc] (lookT (look db name)) ∧ Below w.heap.size w w' := by
  cases hL : look db name with
  | none =>
    refine (lookI_none cs db name w h hL).mono ?_
    rintro e w1 ⟨rfl, z⟩
    exact ⟨none, 0, 0, rfl, own_noT _ _ _, z⟩
  | some t =>
    refine (lookI_some cs db name t w h hL).mono ?_
    rintro e w1 ⟨ds, rfl, ho, z⟩
    obtain ⟨vb, vn, vc, rfl⟩ := oT_form ho
    exact ⟨vb, vn, vc, rfl, ho, z⟩

theorem lookS_any (cs : List Value) (db : DDb) (name : ByteArray) (w : World) (h : rDb.rep w cs db) :
    Calls Try.prog 148 #[.agg cs.toArray, .string name] w fun e w' => ∃ vb vn vc, e = .returned (.tuple #[.agg #[.string (lookT (look db name)).1, .int .i64 (lookT (look db name)).2.1, .slice vb vn vc], .bool (look db name).isSome]) ∧ Own oT w.heap.size w'.heap.size w' [.string (lookT (look db name)).1, .int .i64 (lookT (look db name)).2.1, .slice vb vn vc] (lookT (look db name)) ∧ Below w.heap.size w w' := by
  cases hL : look db name with
  | none =>
    refine (lookS_none cs db name w h hL).mono ?_
    rintro e w1 ⟨rfl, z⟩
    exact ⟨none, 0, 0, rfl, own_noT _ _ _, z⟩
  | some t =>
    refine (lookS_some cs db name t w h hL).mono ?_
    rintro e w1 ⟨ds, rfl, ho, z⟩
    obtain ⟨vb, vn, vc, rfl⟩ := oT_form ho
    exact ⟨vb, vn, vc, rfl, ho, z⟩

end Go.Proofs.Ytbkoddikfpkocaa

/- Contracts: whether a dependency is valid. -/
namespace Go.Proofs.Ytbkoddikfpkocaa
open Go.RowKit Go.Sort
set_option linter.unusedVariables false
set_option linter.unusedSimpArgs false
set_option synthInstance.maxSize 2000
set_option synthInstance.maxHeartbeats 400000

/-- Whether a dependency is valid. -/
def validDp (db : DDb) (x : DDp) : Bool := (look db x.1).isSome && (colsB (lookT (look db x.1)).2.1 x.2.1 && (betw x.2.2 0 ((lookT (look db x.1)).2.1 - 1) && !has x.2.1 x.2.2))
theorem look_okT {db : DDb} {name : ByteArray} (h : (look db name).isSome = true) : TOk (lookT (look db name)) := by
  cases hL : look db name with
  | none => rw [hL] at h; cases h
  | some t => exact look_ok hL
theorem look_valid {db : DDb} {name : ByteArray} (h : (look db name).isSome = true) : validT (lookT (look db name)) = true := by
  cases hL : look db name with
  | none => rw [hL] at h; cases h
  | some t =>
    unfold look at hL
    split at hL
    · rename_i hv
      refine dbFrom_mem (p := none) (by have h9 := hv; simp only [validDb, Bool.and_eq_true] at h9; exact h9.1) _ (List.mem_of_find?_eq_some hL)
    · cases hL

end Go.Proofs.Ytbkoddikfpkocaa

/- Contracts: whether an inclusion is valid. -/
namespace Go.Proofs.Ytbkoddikfpkocaa
open Go.RowKit Go.Sort
set_option linter.unusedVariables false
set_option linter.unusedSimpArgs false
set_option synthInstance.maxSize 2000
set_option synthInstance.maxHeartbeats 400000

/-- Whether an inclusion is valid. -/
def validIn (db : DDb) (x : DIn) : Bool := (look db x.1).isSome && ((look db x.2.2.1).isSome && (betw x.2.1 0 ((lookT (look db x.1)).2.1 - 1) && betw x.2.2.2 0 ((lookT (look db x.2.2.1)).2.1 - 1)))

set_option maxHeartbeats 1000000 in
theorem validIn_impl (cs ds : List Value) (db : DDb) (x : DIn) (w : World) (h : rDb.rep w cs db) (h' : rIn.rep w ds x) :
    Calls Try.prog 146 #[.agg cs.toArray, .agg ds.toArray] w fun e w' => e = .returned (.bool (validIn db x)) ∧ Below w.heap.size w w' := by
  obtain ⟨ub, un, uc, rfl, g1⟩ := rDb_open h
  obtain ⟨rfl, hs0, hi1, hs2, hi3⟩ := rIn_open h'
  obtain ⟨m1, c1, m2, c2⟩ := x
  simp only at hs0 hi1 hs2 hi3
  have hA := @lookT_ar db m1
  have hB := @lookT_ar db m2
  have hc1 := fun W (hW : Below w.heap.size w W) => lookI_any [.slice ub un uc] db m1 W (rDb.mono h hW)
  have hc2 := fun W (hW : Below w.heap.size w W) => lookI_any [.slice ub un uc] db m2 W (rDb.mono h hW)
  have HV : Hid (validIn db (m1, c1, m2, c2) = ((look db m1).isSome && ((look db m2).isSome && (betw c1 0 ((lookT (look db m1)).2.1 - 1) && betw c2 0 ((lookT (look db m2)).2.1 - 1))))) := rfl
  obtain ⟨p, hp⟩ : ∃ p, (look db m1).isSome = p := ⟨_, rfl⟩
  obtain ⟨q, hq⟩ : ∃ q, (look db m2).isSome = q := ⟨_, rfl⟩
  obtain ⟨t1, ht1⟩ : ∃ t, lookT (look db m1) = t := ⟨_, rfl⟩
  obtain ⟨t2, ht2⟩ : ∃ t, lookT (look db m2) = t := ⟨_, rfl⟩
  rw [hp, hq, ht1, ht2] at HV
  simp only [hp, ht1] at hc1 hA
  simp only [hq, ht2] at hc2 hB
  obtain ⟨ns, A, r1⟩ := t1
  obtain ⟨ms, B, r2⟩ := t2
  simp only at hA hB HV hc1 hc2
  have HC1 := Lib.hid hc1
  have HC2 := Lib.hid hc2
  have hwA : IntKind.i64.wrap (A - 1) = A - 1 := IntWalk.i64_in _ (by omega)
  have hwB : IntKind.i64.wrap (B - 1) = B - 1 := IntWalk.i64_in _ (by omega)
  obtain ⟨u, hu⟩ : ∃ u, betw c1 0 (A - 1) = u := ⟨_, rfl⟩
  rw [hu] at HV
  clear hc1 hc2 hp hq ht1 ht2 h h' g1 hs0 hi1 hs2 hi3 hA hB
  have hb0 : Below w.heap.size w w := Below.refl _ _
  go_enter Try.func146, Try.ntmps146
  obtain ⟨w1, hw1⟩ : ∃ W, W = w.alloc (.cells #[.slice ub un uc] 89) := ⟨_, rfl⟩
  have z1 : Below w.heap.size w w1 := by rw [hw1]; exact (Below.refl _ _).alloc (Nat.le_refl _) _
  have s1 : w1.heap.size = w.heap.size + 1 := by rw [hw1]; simp
  have hb1 := on hb0 z1
  have b_0 : w1.cell? ⟨w.heap.size, 0, none⟩ = some (.slice ub un uc) := by rw [hw1]; exact box_cell (Below.refl _ _) rfl
  have raw1_b_0 := b_0
  rw [hw1] at raw1_b_0
  obtain ⟨w2, hw2⟩ : ∃ W, W = w1.alloc (.cells #[.string m1, .int .i64 c1, .string m2, .int .i64 c2] 91) := ⟨_, rfl⟩
  have z2 : Below w1.heap.size w1 w2 := by rw [hw2]; exact (Below.refl _ _).alloc (Nat.le_refl _) _
  have s2 : w2.heap.size = w1.heap.size + 1 := by rw [hw2]; simp
  have hb2 := on hb1 z2
  replace b_0 := (z2.cell (p := ⟨w.heap.size, 0, none⟩) (by simp only []; omega)).trans b_0
  have e2 : w1.heap.size = w.heap.size + 1 := by omega
  have x_0 : w2.cell? ⟨w1.heap.size, 0, none⟩ = some (.string m1) := by rw [hw2]; exact box_cell (Below.refl _ _) rfl
  have x_1 : w2.cell? ⟨w1.heap.size, 1, none⟩ = some (.int .i64 c1) := by rw [hw2]; exact box_cell (Below.refl _ _) rfl
  have x_2 : w2.cell? ⟨w1.heap.size, 2, none⟩ = some (.string m2) := by rw [hw2]; exact box_cell (Below.refl _ _) rfl
  have x_3 : w2.cell? ⟨w1.heap.size, 3, none⟩ = some (.int .i64 c2) := by rw [hw2]; exact box_cell (Below.refl _ _) rfl
  rw [e2] at x_0 x_1 x_2 x_3
  have raw2_b_0 := b_0
  have raw2_x_0 := x_0
  have raw2_x_1 := x_1
  have raw2_x_2 := x_2
  have raw2_x_3 := x_3
  rw [hw2, hw1] at raw2_b_0 raw2_x_0 raw2_x_1 raw2_x_2 raw2_x_3
  go_wp2_with fail
  rw [← hw1]
  rw [← hw2]
  clear hw2 hw1
  clear raw1_b_0 raw2_b_0 raw2_x_0 raw2_x_1 raw2_x_2 raw2_x_3
  refine (HC1.out _ hb2).mono ?_
  rintro e w9 ⟨vb, vn, vc, rfl, _, z9⟩
  have s3 := z9.size
  have hb3 := on hb2 z9
  replace b_0 := (z9.cell (p := ⟨w.heap.size, 0, none⟩) (by simp only []; omega)).trans b_0
  replace x_0 := (z9.cell (p := ⟨w.heap.size + 1, 0, none⟩) (by simp only []; omega)).trans x_0
  replace x_1 := (z9.cell (p := ⟨w.heap.size + 1, 1, none⟩) (by simp only []; omega)).trans x_1
  replace x_2 := (z9.cell (p := ⟨w.heap.size + 1, 2, none⟩) (by simp only []; omega)).trans x_2
  replace x_3 := (z9.cell (p := ⟨w.heap.size + 1, 3, none⟩) (by simp only []; omega)).trans x_3
  obtain ⟨w4, hw4⟩ : ∃ W, W = w9.alloc (.cells #[.string ns, .int .i64 A, .slice vb vn vc] 34) := ⟨_, rfl⟩
  have z4 : Below w9.heap.size w9 w4 := by rw [hw4]; exact (Below.refl _ _).alloc (Nat.le_refl _) _
  have s4 : w4.heap.size = w9.heap.size + 1 := by rw [hw4]; simp
  have hb4 := on hb3 z4
  have old4_b_0 := b_0
  have old4_x_0 := x_0
  have old4_x_1 := x_1
  have old4_x_2 := x_2
  have old4_x_3 := x_3
  replace b_0 := (z4.cell (p := ⟨w.heap.size, 0, none⟩) (by simp only []; omega)).trans b_0
  replace x_0 := (z4.cell (p := ⟨w.heap.size + 1, 0, none⟩) (by simp only []; omega)).trans x_0
  replace x_1 := (z4.cell (p := ⟨w.heap.size + 1, 1, none⟩) (by simp only []; omega)).trans x_1
  replace x_2 := (z4.cell (p := ⟨w.heap.size + 1, 2, none⟩) (by simp only []; omega)).trans x_2
  replace x_3 := (z4.cell (p := ⟨w.heap.size + 1, 3, none⟩) (by simp only []; omega)).trans x_3
  have t_0 : w4.cell? ⟨w9.heap.size, 0, none⟩ = some (.string ns) := by rw [hw4]; exact box_cell (Below.refl _ _) rfl
  have t_1 : w4.cell? ⟨w9.heap.size, 1, none⟩ = some (.int .i64 A) := by rw [hw4]; exact box_cell (Below.refl _ _) rfl
  have t_2 : w4.cell? ⟨w9.heap.size, 2, none⟩ = some (.slice vb vn vc) := by rw [hw4]; exact box_cell (Below.refl _ _) rfl
  have raw4_b_0 := b_0
  have raw4_x_0 := x_0
  have raw4_x_1 := x_1
  have raw4_x_2 := x_2
  have raw4_x_3 := x_3
  have raw4_t_0 := t_0
  have raw4_t_1 := t_1
  have raw4_t_2 := t_2
  rw [hw4] at raw4_b_0 raw4_x_0 raw4_x_1 raw4_x_2 raw4_x_3 raw4_t_0 raw4_t_1 raw4_t_2
  go_wp2_with fail
  rw [← hw4]
  clear hw4
  clear old4_b_0 old4_x_0 old4_x_1 old4_x_2 old4_x_3 raw4_b_0 raw4_x_0 raw4_x_1 raw4_x_2 raw4_x_3 raw4_t_0 raw4_t_1 raw4_t_2
  refine (HC2.out _ hb4).mono ?_
  rintro e w10 ⟨vb', vn', vc', rfl, _, z10⟩
  have s5 := z10.size
  have hb5 := on hb4 z10
  replace b_0 := (z10.cell (p := ⟨w.heap.size, 0, none⟩) (by simp only []; omega)).trans b_0
  replace x_0 := (z10.cell (p := ⟨w.heap.size + 1, 0, none⟩) (by simp only []; omega)).trans x_0
  replace x_1 := (z10.cell (p := ⟨w.heap.size + 1, 1, none⟩) (by simp only []; omega)).trans x_1
  replace x_2 := (z10.cell (p := ⟨w.heap.size + 1, 2, none⟩) (by simp only []; omega)).trans x_2
  replace x_3 := (z10.cell (p := ⟨w.heap.size + 1, 3, none⟩) (by simp only []; omega)).trans x_3
  replace t_0 := (z10.cell (p := ⟨w9.heap.size, 0, none⟩) (by simp only []; omega)).trans t_0
  replace t_1 := (z10.cell (p := ⟨w9.heap.size, 1, none⟩) (by simp only []; omega)).trans t_1
  replace t_2 := (z10.cell (p := ⟨w9.heap.size, 2, none⟩) (by simp only []; omega)).trans t_2
  obtain ⟨w6, hw6⟩ : ∃ W, W = w10.alloc (.cells #[.string ms, .int .i64 B, .slice vb' vn' vc'] 34) := ⟨_, rfl⟩
  have z6 : Below w10.heap.size w10 w6 := by rw [hw6]; exact (Below.refl _ _).alloc (Nat.le_refl _) _
  have s6 : w6.heap.size = w10.heap.size + 1 := by rw [hw6]; simp
  have hb6 := on hb5 z6
  have old6_b_0 := b_0
  have old6_x_0 := x_0
  have old6_x_1 := x_1
  have old6_x_2 := x_2
  have old6_x_3 := x_3
  have old6_t_0 := t_0
  have old6_t_1 := t_1
  have old6_t_2 := t_2
  replace b_0 := (z6.cell (p := ⟨w.heap.size, 0, none⟩) (by simp only []; omega)).trans b_0
  replace x_0 := (z6.cell (p := ⟨w.heap.size + 1, 0, none⟩) (by simp only []; omega)).trans x_0
  replace x_1 := (z6.cell (p := ⟨w.heap.size + 1, 1, none⟩) (by simp only []; omega)).trans x_1
  replace x_2 := (z6.cell (p := ⟨w.heap.size + 1, 2, none⟩) (by simp only []; omega)).trans x_2
  replace x_3 := (z6.cell (p := ⟨w.heap.size + 1, 3, none⟩) (by simp only []; omega)).trans x_3
  replace t_0 := (z6.cell (p := ⟨w9.heap.size, 0, none⟩) (by simp only []; omega)).trans t_0
  replace t_1 := (z6.cell (p := ⟨w9.heap.size, 1, none⟩) (by simp only []; omega)).trans t_1
  replace t_2 := (z6.cell (p := ⟨w9.heap.size, 2, none⟩) (by simp only []; omega)).trans t_2
  have y_0 : w6.cell? ⟨w10.heap.size, 0, none⟩ = some (.string ms) := by rw [hw6]; exact box_cell (Below.refl _ _) rfl
  have y_1 : w6.cell? ⟨w10.heap.size, 1, none⟩ = some (.int .i64 B) := by rw [hw6]; exact box_cell (Below.refl _ _) rfl
  have y_2 : w6.cell? ⟨w10.heap.size, 2, none⟩ = some (.slice vb' vn' vc') := by rw [hw6]; exact box_cell (Below.refl _ _) rfl
  have raw6_b_0 := b_0
  have raw6_x_0 := x_0
  have raw6_x_1 := x_1
  have raw6_x_2 := x_2
  have raw6_x_3 := x_3
  have raw6_t_0 := t_0
  have raw6_t_1 := t_1
  have raw6_t_2 := t_2
  have raw6_y_0 := y_0
  have raw6_y_1 := y_1
  have raw6_y_2 := y_2
  rw [hw6] at raw6_b_0 raw6_x_0 raw6_x_1 raw6_x_2 raw6_x_3 raw6_t_0 raw6_t_1 raw6_t_2 raw6_y_0 raw6_y_1 raw6_y_2
  cases p with
  | false =>
    go_wp2_with fail
    rw [← hw6]
    clear hw6
    clear old6_b_0 old6_x_0 old6_x_1 old6_x_2 old6_x_3 old6_t_0 old6_t_1 old6_t_2 raw6_b_0 raw6_x_0 raw6_x_1 raw6_x_2 raw6_x_3 raw6_t_0 raw6_t_1 raw6_t_2 raw6_y_0 raw6_y_1 raw6_y_2
    go_wp2_with fail
    go_ret
    exact ⟨ret_bool (by rw [HV.out]; rfl), hb6⟩
  | true =>
    cases q with
    | false =>
      go_wp2_with fail
      rw [← hw6]
      clear hw6
      clear old6_b_0 old6_x_0 old6_x_1 old6_x_2 old6_x_3 old6_t_0 old6_t_1 old6_t_2 raw6_b_0 raw6_x_0 raw6_x_1 raw6_x_2 raw6_x_3 raw6_t_0 raw6_t_1 raw6_t_2 raw6_y_0 raw6_y_1 raw6_y_2
      go_wp2_with fail
      go_ret
      exact ⟨ret_bool (by rw [HV.out]; rfl), hb6⟩
    | true =>
      cases u with
      | false =>
        go_wp2_with fail
        rw [← hw6]
        clear hw6
        clear old6_b_0 old6_x_0 old6_x_1 old6_x_2 old6_x_3 old6_t_0 old6_t_1 old6_t_2 raw6_b_0 raw6_x_0 raw6_x_1 raw6_x_2 raw6_x_3 raw6_t_0 raw6_t_1 raw6_t_2 raw6_y_0 raw6_y_1 raw6_y_2
        refine (within_any _ _ _ _).mono ?_
        rintro e w' ⟨rfl, rfl⟩
        rw [hu]
        go_wp2_with fail
        go_ret
        exact ⟨ret_bool (by rw [HV.out]; rfl), hb6⟩
      | true =>
        go_wp2_with fail
        rw [← hw6]
        clear hw6
        clear old6_b_0 old6_x_0 old6_x_1 old6_x_2 old6_x_3 old6_t_0 old6_t_1 old6_t_2 raw6_b_0 raw6_x_0 raw6_x_1 raw6_x_2 raw6_x_3 raw6_t_0 raw6_t_1 raw6_t_2 raw6_y_0 raw6_y_1 raw6_y_2
        refine (within_any _ _ _ _).mono ?_
        rintro e w' ⟨rfl, rfl⟩
        rw [hu]
        go_wp2_with fail
        refine (within_any _ _ _ _).mono ?_
        rintro e w' ⟨rfl, rfl⟩
        go_wp2_with fail
        go_ret
        exact ⟨ret_bool (by rw [HV.out]; rfl), hb6⟩

set_option maxHeartbeats 1000000 in
theorem validIn_spec (cs ds : List Value) (db : DDb) (x : DIn) (w : World) (h : rDb.rep w cs db) (h' : rIn.rep w ds x) :
    Calls Try.prog 144 #[.agg cs.toArray, .agg ds.toArray] w fun e w' => e = .returned (.bool (validIn db x)) ∧ Below w.heap.size w w' := by
  obtain ⟨ub, un, uc, rfl, g1⟩ := rDb_open h
  obtain ⟨rfl, hs0, hi1, hs2, hi3⟩ := rIn_open h'
  obtain ⟨m1, c1, m2, c2⟩ := x
  simp only at hs0 hi1 hs2 hi3
  have hA := @lookT_ar db m1
  have hB := @lookT_ar db m2
  have hc1 := fun W (hW : Below w.heap.size w W) => lookS_any [.slice ub un uc] db m1 W (rDb.mono h hW)
  have hc2 := fun W (hW : Below w.heap.size w W) => lookS_any [.slice ub un uc] db m2 W (rDb.mono h hW)
  have HV : Hid (validIn db (m1, c1, m2, c2) = ((look db m1).isSome && ((look db m2).isSome && (betw c1 0 ((lookT (look db m1)).2.1 - 1) && betw c2 0 ((lookT (look db m2)).2.1 - 1))))) := rfl
  obtain ⟨p, hp⟩ : ∃ p, (look db m1).isSome = p := ⟨_, rfl⟩
  obtain ⟨q, hq⟩ : ∃ q, (look db m2).isSome = q := ⟨_, rfl⟩
  obtain ⟨t1, ht1⟩ : ∃ t, lookT (look db m1) = t := ⟨_, rfl⟩
  obtain ⟨t2, ht2⟩ : ∃ t, lookT (look db m2) = t := ⟨_, rfl⟩
  rw [hp, hq, ht1, ht2] at HV
  simp only [hp, ht1] at hc1 hA
  simp only [hq, ht2] at hc2 hB
  obtain ⟨ns, A, r1⟩ := t1
  obtain ⟨ms, B, r2⟩ := t2
  simp only at hA hB HV hc1 hc2
  have HC1 := Lib.hid hc1
  have HC2 := Lib.hid hc2
  have hwA : IntKind.i64.wrap (A - 1) = A - 1 := IntWalk.i64_in _ (by omega)
  have hwB : IntKind.i64.wrap (B - 1) = B - 1 := IntWalk.i64_in _ (by omega)
  obtain ⟨u, hu⟩ : ∃ u, betw c1 0 (A - 1) = u := ⟨_, rfl⟩
  rw [hu] at HV
  clear hc1 hc2 hp hq ht1 ht2 h h' g1 hs0 hi1 hs2 hi3 hA hB
  have hb0 : Below w.heap.size w w := Below.refl _ _
  go_enter Try.func144, Try.ntmps144
  obtain ⟨w1, hw1⟩ : ∃ W, W = w.alloc (.cells #[.slice ub un uc] 89) := ⟨_, rfl⟩
  have z1 : Below w.heap.size w w1 := by rw [hw1]; exact (Below.refl _ _).alloc (Nat.le_refl _) _
  have s1 : w1.heap.size = w.heap.size + 1 := by rw [hw1]; simp
  have hb1 := on hb0 z1
  have b_0 : w1.cell? ⟨w.heap.size, 0, none⟩ = some (.slice ub un uc) := by rw [hw1]; exact box_cell (Below.refl _ _) rfl
  have raw1_b_0 := b_0
  rw [hw1] at raw1_b_0
  obtain ⟨w2, hw2⟩ : ∃ W, W = w1.alloc (.cells #[.string m1, .int .i64 c1, .string m2, .int .i64 c2] 91) := ⟨_, rfl⟩
  have z2 : Below w1.heap.size w1 w2 := by rw [hw2]; exact (Below.refl _ _).alloc (Nat.le_refl _) _
  have s2 : w2.heap.size = w1.heap.size + 1 := by rw [hw2]; simp
  have hb2 := on hb1 z2
  replace b_0 := (z2.cell (p := ⟨w.heap.size, 0, none⟩) (by simp only []; omega)).trans b_0
  have e2 : w1.heap.size = w.heap.size + 1 := by omega
  have x_0 : w2.cell? ⟨w1.heap.size, 0, none⟩ = some (.string m1) := by rw [hw2]; exact box_cell (Below.refl _ _) rfl
  have x_1 : w2.cell? ⟨w1.heap.size, 1, none⟩ = some (.int .i64 c1) := by rw [hw2]; exact box_cell (Below.refl _ _) rfl
  have x_2 : w2.cell? ⟨w1.heap.size, 2, none⟩ = some (.string m2) := by rw [hw2]; exact box_cell (Below.refl _ _) rfl
  have x_3 : w2.cell? ⟨w1.heap.size, 3, none⟩ = some (.int .i64 c2) := by rw [hw2]; exact box_cell (Below.refl _ _) rfl
  rw [e2] at x_0 x_1 x_2 x_3
  have raw2_b_0 := b_0
  have raw2_x_0 := x_0
  have raw2_x_1 := x_1
  have raw2_x_2 := x_2
  have raw2_x_3 := x_3
  rw [hw2, hw1] at raw2_b_0 raw2_x_0 raw2_x_1 raw2_x_2 raw2_x_3
  go_wp2_with fail
  rw [← hw1]
  rw [← hw2]
  clear hw2 hw1
  clear raw1_b_0 raw2_b_0 raw2_x_0 raw2_x_1 raw2_x_2 raw2_x_3
  refine (HC1.out _ hb2).mono ?_
  rintro e w9 ⟨vb, vn, vc, rfl, _, z9⟩
  have s3 := z9.size
  have hb3 := on hb2 z9
  replace b_0 := (z9.cell (p := ⟨w.heap.size, 0, none⟩) (by simp only []; omega)).trans b_0
  replace x_0 := (z9.cell (p := ⟨w.heap.size + 1, 0, none⟩) (by simp only []; omega)).trans x_0
  replace x_1 := (z9.cell (p := ⟨w.heap.size + 1, 1, none⟩) (by simp only []; omega)).trans x_1
  replace x_2 := (z9.cell (p := ⟨w.heap.size + 1, 2, none⟩) (by simp only []; omega)).trans x_2
  replace x_3 := (z9.cell (p := ⟨w.heap.size + 1, 3, none⟩) (by simp only []; omega)).trans x_3
  obtain ⟨w4, hw4⟩ : ∃ W, W = w9.alloc (.cells #[.string ns, .int .i64 A, .slice vb vn vc] 34) := ⟨_, rfl⟩
  have z4 : Below w9.heap.size w9 w4 := by rw [hw4]; exact (Below.refl _ _).alloc (Nat.le_refl _) _
  have s4 : w4.heap.size = w9.heap.size + 1 := by rw [hw4]; simp
  have hb4 := on hb3 z4
  have old4_b_0 := b_0
  have old4_x_0 := x_0
  have old4_x_1 := x_1
  have old4_x_2 := x_2
  have old4_x_3 := x_3
  replace b_0 := (z4.cell (p := ⟨w.heap.size, 0, none⟩) (by simp only []; omega)).trans b_0
  replace x_0 := (z4.cell (p := ⟨w.heap.size + 1, 0, none⟩) (by simp only []; omega)).trans x_0
  replace x_1 := (z4.cell (p := ⟨w.heap.size + 1, 1, none⟩) (by simp only []; omega)).trans x_1
  replace x_2 := (z4.cell (p := ⟨w.heap.size + 1, 2, none⟩) (by simp only []; omega)).trans x_2
  replace x_3 := (z4.cell (p := ⟨w.heap.size + 1, 3, none⟩) (by simp only []; omega)).trans x_3
  have t_0 : w4.cell? ⟨w9.heap.size, 0, none⟩ = some (.string ns) := by rw [hw4]; exact box_cell (Below.refl _ _) rfl
  have t_1 : w4.cell? ⟨w9.heap.size, 1, none⟩ = some (.int .i64 A) := by rw [hw4]; exact box_cell (Below.refl _ _) rfl
  have t_2 : w4.cell? ⟨w9.heap.size, 2, none⟩ = some (.slice vb vn vc) := by rw [hw4]; exact box_cell (Below.refl _ _) rfl
  have raw4_b_0 := b_0
  have raw4_x_0 := x_0
  have raw4_x_1 := x_1
  have raw4_x_2 := x_2
  have raw4_x_3 := x_3
  have raw4_t_0 := t_0
  have raw4_t_1 := t_1
  have raw4_t_2 := t_2
  rw [hw4] at raw4_b_0 raw4_x_0 raw4_x_1 raw4_x_2 raw4_x_3 raw4_t_0 raw4_t_1 raw4_t_2
  go_wp2_with fail
  rw [← hw4]
  clear hw4
  clear old4_b_0 old4_x_0 old4_x_1 old4_x_2 old4_x_3 raw4_b_0 raw4_x_0 raw4_x_1 raw4_x_2 raw4_x_3 raw4_t_0 raw4_t_1 raw4_t_2
  refine (HC2.out _ hb4).mono ?_
  rintro e w10 ⟨vb', vn', vc', rfl, _, z10⟩
  have s5 := z10.size
  have hb5 := on hb4 z10
  replace b_0 := (z10.cell (p := ⟨w.heap.size, 0, none⟩) (by simp only []; omega)).trans b_0
  replace x_0 := (z10.cell (p := ⟨w.heap.size + 1, 0, none⟩) (by simp only []; omega)).trans x_0
  replace x_1 := (z10.cell (p := ⟨w.heap.size + 1, 1, none⟩) (by simp only []; omega)).trans x_1
  replace x_2 := (z10.cell (p := ⟨w.heap.size + 1, 2, none⟩) (by simp only []; omega)).trans x_2
  replace x_3 := (z10.cell (p := ⟨w.heap.size + 1, 3, none⟩) (by simp only []; omega)).trans x_3
  replace t_0 := (z10.cell (p := ⟨w9.heap.size, 0, none⟩) (by simp only []; omega)).trans t_0
  replace t_1 := (z10.cell (p := ⟨w9.heap.size, 1, none⟩) (by simp only []; omega)).trans t_1
  replace t_2 := (z10.cell (p := ⟨w9.heap.size, 2, none⟩) (by simp only []; omega)).trans t_2
  obtain ⟨w6, hw6⟩ : ∃ W, W = w10.alloc (.cells #[.string ms, .int .i64 B, .slice vb' vn' vc'] 34) := ⟨_, rfl⟩
  have z6 : Below w10.heap.size w10 w6 := by rw [hw6]; exact (Below.refl _ _).alloc (Nat.le_refl _) _
  have s6 : w6.heap.size = w10.heap.size + 1 := by rw [hw6]; simp
  have hb6 := on hb5 z6
  have old6_b_0 := b_0
  have old6_x_0 := x_0
  have old6_x_1 := x_1
  have old6_x_2 := x_2
  have old6_x_3 := x_3
  have old6_t_0 := t_0
  have old6_t_1 := t_1
  have old6_t_2 := t_2
  replace b_0 := (z6.cell (p := ⟨w.heap.size, 0, none⟩) (by simp only []; omega)).trans b_0
  replace x_0 := (z6.cell (p := ⟨w.heap.size + 1, 0, none⟩) (by simp only []; omega)).trans x_0
  replace x_1 := (z6.cell (p := ⟨w.heap.size + 1, 1, none⟩) (by simp only []; omega)).trans x_1
  replace x_2 := (z6.cell (p := ⟨w.heap.size + 1, 2, none⟩) (by simp only []; omega)).trans x_2
  replace x_3 := (z6.cell (p := ⟨w.heap.size + 1, 3, none⟩) (by simp only []; omega)).trans x_3
  replace t_0 := (z6.cell (p := ⟨w9.heap.size, 0, none⟩) (by simp only []; omega)).trans t_0
  replace t_1 := (z6.cell (p := ⟨w9.heap.size, 1, none⟩) (by simp only []; omega)).trans t_1
  replace t_2 := (z6.cell (p := ⟨w9.heap.size, 2, none⟩) (by simp only []; omega)).trans t_2
  have y_0 : w6.cell? ⟨w10.heap.size, 0, none⟩ = some (.string ms) := by rw [hw6]; exact box_cell (Below.refl _ _) rfl
  have y_1 : w6.cell? ⟨w10.heap.size, 1, none⟩ = some (.int .i64 B) := by rw [hw6]; exact box_cell (Below.refl _ _) rfl
  have y_2 : w6.cell? ⟨w10.heap.size, 2, none⟩ = some (.slice vb' vn' vc') := by rw [hw6]; exact box_cell (Below.refl _ _) rfl
  have raw6_b_0 := b_0
  have raw6_x_0 := x_0
  have raw6_x_1 := x_1
  have raw6_x_2 := x_2
  have raw6_x_3 := x_3
  have raw6_t_0 := t_0
  have raw6_t_1 := t_1
  have raw6_t_2 := t_2
  have raw6_y_0 := y_0
  have raw6_y_1 := y_1
  have raw6_y_2 := y_2
  rw [hw6] at raw6_b_0 raw6_x_0 raw6_x_1 raw6_x_2 raw6_x_3 raw6_t_0 raw6_t_1 raw6_t_2 raw6_y_0 raw6_y_1 raw6_y_2
  cases p with
  | false =>
    go_wp2_with fail
    rw [← hw6]
    clear hw6
    clear old6_b_0 old6_x_0 old6_x_1 old6_x_2 old6_x_3 old6_t_0 old6_t_1 old6_t_2 raw6_b_0 raw6_x_0 raw6_x_1 raw6_x_2 raw6_x_3 raw6_t_0 raw6_t_1 raw6_t_2 raw6_y_0 raw6_y_1 raw6_y_2
    go_wp2_with fail
    go_ret
    exact ⟨ret_bool (by rw [HV.out]; rfl), hb6⟩
  | true =>
    cases q with
    | false =>
      go_wp2_with fail
      rw [← hw6]
      clear hw6
      clear old6_b_0 old6_x_0 old6_x_1 old6_x_2 old6_x_3 old6_t_0 old6_t_1 old6_t_2 raw6_b_0 raw6_x_0 raw6_x_1 raw6_x_2 raw6_x_3 raw6_t_0 raw6_t_1 raw6_t_2 raw6_y_0 raw6_y_1 raw6_y_2
      go_wp2_with fail
      go_ret
      exact ⟨ret_bool (by rw [HV.out]; rfl), hb6⟩
    | true =>
      cases u with
      | false =>
        go_wp2_with fail
        rw [← hw6]
        clear hw6
        clear old6_b_0 old6_x_0 old6_x_1 old6_x_2 old6_x_3 old6_t_0 old6_t_1 old6_t_2 raw6_b_0 raw6_x_0 raw6_x_1 raw6_x_2 raw6_x_3 raw6_t_0 raw6_t_1 raw6_t_2 raw6_y_0 raw6_y_1 raw6_y_2
        refine (l1In_any _ _ _ _).mono ?_
        rintro e w' ⟨rfl, rfl⟩
        rw [hu]
        go_wp2_with fail
        go_ret
        exact ⟨ret_bool (by rw [HV.out]; rfl), hb6⟩
      | true =>
        go_wp2_with fail
        rw [← hw6]
        clear hw6
        clear old6_b_0 old6_x_0 old6_x_1 old6_x_2 old6_x_3 old6_t_0 old6_t_1 old6_t_2 raw6_b_0 raw6_x_0 raw6_x_1 raw6_x_2 raw6_x_3 raw6_t_0 raw6_t_1 raw6_t_2 raw6_y_0 raw6_y_1 raw6_y_2
        refine (l1In_any _ _ _ _).mono ?_
        rintro e w' ⟨rfl, rfl⟩
        rw [hu]
        go_wp2_with fail
        refine (l1In_any _ _ _ _).mono ?_
        rintro e w' ⟨rfl, rfl⟩
        go_wp2_with fail
        go_ret
        exact ⟨ret_bool (by rw [HV.out]; rfl), hb6⟩

end Go.Proofs.Ytbkoddikfpkocaa

/- Plain: values that are missing; rows sorted and compacted. -/
namespace Go.Proofs.Ytbkoddikfpkocaa
open Go.RowKit
set_option linter.unusedVariables false
set_option linter.unusedSimpArgs false

/-- Strictly ascending numbers of the same members are the same. -/
theorem asc_uniq {l m : List Int} (h : l.Pairwise (· < ·)) (k : m.Pairwise (· < ·)) (hm : ∀ x, x ∈ l ↔ x ∈ m) : l = m := by
  have n1 : l.Nodup := h.imp fun h => by omega
  have n2 : m.Nodup := k.imp fun h => by omega
  refine List.Perm.eq_of_pairwise (le := (· ≤ ·)) (fun a b _ _ => Int.le_antisymm) (h.imp fun h => by omega) (k.imp fun h => by omega) ((List.perm_ext_iff_of_nodup n1 n2).2 hm)
/-- What slices.Compact leaves of a sorted list. -/
theorem compact_strict {zs : List Int} (h : zs.Pairwise (· ≤ ·)) : (Lib.compact zs).Pairwise (· < ·) ∧ ∀ x, x ∈ Lib.compact zs ↔ x ∈ zs := by
  have get : ∀ j, j < zs.length → zs.toArray[j]! = zs.getD j 0 := fun j hj => by simp [hj]
  have mono : ∀ i j, i ≤ j → j < zs.length → zs.getD i 0 ≤ zs.getD j 0 := fun i j hij hj => by
    rcases Nat.eq_or_lt_of_le hij with rfl | hlt
    · exact Int.le_refl _
    · have := (List.pairwise_iff_getElem.1 h) i j (by omega) hj hlt
      rw [List.getD_eq_getElem?_getD, List.getD_eq_getElem?_getD, List.getElem?_eq_getElem hj, List.getElem?_eq_getElem (show i < zs.length by omega)]
      exact this
  have memD : ∀ x, x ∈ zs ↔ ∃ j, j < zs.length ∧ zs.getD j 0 = x := fun x => by
    rw [List.mem_iff_getElem]
    constructor
    · rintro ⟨j, hj, rfl⟩; exact ⟨j, hj, by rw [List.getD_eq_getElem?_getD, List.getElem?_eq_getElem hj]; rfl⟩
    · rintro ⟨j, hj, rfl⟩; exact ⟨j, hj, by rw [List.getD_eq_getElem?_getD, List.getElem?_eq_getElem hj]; rfl⟩
  unfold Lib.compact Lib.compactUpTo
  constructor
  · rw [List.pairwise_map]
    refine List.Pairwise.imp_of_mem ?_ (List.Pairwise.filter _ (List.pairwise_lt_range (n := zs.length)))
    intro i j hi hj hij
    simp only [List.mem_filter, List.mem_range, Lib.keeps, decide_eq_true_eq] at hi hj
    rw [get i hi.1, get j hj.1]
    rw [get j hj.1, get (j - 1) (by omega)] at hj
    have h1 := mono i (j - 1) (by omega) (by omega)
    have h2 := mono (j - 1) j (by omega) hj.1
    have h3 : zs.getD j 0 ≠ zs.getD (j - 1) 0 := by
      rcases hj.2 with h | h
      · omega
      · exact h
    omega
  · intro x
    simp only [List.mem_map, List.mem_filter, List.mem_range]
    rw [memD]
    constructor
    · rintro ⟨j, ⟨hj, _⟩, rfl⟩; exact ⟨j, hj, (get j hj).symm⟩
    · rintro ⟨j, hj, rfl⟩
      have key : ∀ j, j < zs.length → ∃ i, (i < zs.length ∧ Lib.keeps zs.toArray i = true) ∧ zs.toArray[i]! = zs.getD j 0 := by
        intro j
        induction j with
        | zero => intro hj; exact ⟨0, ⟨hj, by simp [Lib.keeps]⟩, get 0 hj⟩
        | succ j ih =>
          intro hj
          by_cases e : zs.getD (j + 1) 0 = zs.getD j 0
          · obtain ⟨i, h1, h2⟩ := ih (by omega)
            exact ⟨i, h1, h2.trans e.symm⟩
          · exact ⟨j + 1, ⟨hj, by
              simp only [Lib.keeps, decide_eq_true_eq]
              exact .inr (by rw [show j + 1 - 1 = j by omega, get _ hj, get j (by omega)]; exact e)⟩, get _ hj⟩
      exact key j hj
/-- The values of a column. -/
def colVals (rows : List (List Int)) (c : Nat) : List Int := rows.map (fun r => r.getD c 0)
/-- The values below n that stand in one column and not in the other. -/
def missTo (a b : List Int) : Nat → List Int
  | 0 => []
  | n + 1 => missTo a b n ++ (if has a (n : Int) && !has b (n : Int) then [(n : Int)] else [])
theorem missTo_yes {a b : List Int} {n : Nat} (h : has a (n : Int) = true) (h' : has b (n : Int) = false) : missTo a b (n + 1) = missTo a b n ++ [(n : Int)] := by simp [missTo, h, h']
theorem missTo_no {a b : List Int} {n : Nat} (h : (has a (n : Int) && !has b (n : Int)) = false) : missTo a b (n + 1) = missTo a b n := by rw [missTo, h]; simp
theorem missTo_len (a b : List Int) : ∀ n, (missTo a b n).length ≤ n
  | 0 => by simp [missTo]
  | n + 1 => by
    have := missTo_len a b n
    rw [missTo]; split <;> simp <;> omega
theorem missTo_spec (a b : List Int) : ∀ n, (missTo a b n).Pairwise (· < ·) ∧ ∀ x, x ∈ missTo a b n ↔ ∃ j : Nat, j < n ∧ x = (j : Int) ∧ has a x = true ∧ has b x = false
  | 0 => by simp [missTo]
  | n + 1 => by
    obtain ⟨h1, h2⟩ := missTo_spec a b n
    by_cases hb : (has a (n : Int) && !has b (n : Int)) = true
    · rw [missTo, hb, if_pos rfl]
      simp only [Bool.and_eq_true, Bool.not_eq_true'] at hb
      refine ⟨?_, fun x => ?_⟩
      · rw [List.pairwise_append]
        refine ⟨h1, by simp, ?_⟩
        intro x hx y hy
        simp only [List.mem_singleton] at hy
        subst hy
        obtain ⟨j, hj, rfl, _⟩ := (h2 x).1 hx
        omega
      · simp only [List.mem_append, List.mem_singleton, h2]
        constructor
        · rintro (⟨j, hj, rfl, h⟩ | rfl)
          · exact ⟨j, by omega, rfl, h⟩
          · exact ⟨n, by omega, rfl, hb⟩
        · rintro ⟨j, hj, rfl, h⟩
          by_cases e : j = n
          · subst e; exact .inr rfl
          · exact .inl ⟨j, by omega, rfl, h⟩
    · rw [missTo_no (by simpa using hb)]
      refine ⟨h1, fun x => ?_⟩
      rw [h2]
      constructor
      · rintro ⟨j, hj, rfl, h⟩; exact ⟨j, by omega, rfl, h⟩
      · rintro ⟨j, hj, rfl, h⟩
        by_cases e : j = n
        · subst e; exact absurd (by simp [h]) hb
        · exact ⟨j, by omega, rfl, h⟩
/-- What the program makes: those not there, sorted, each once. -/
theorem miss_impl {a b : List Int} (h : ∀ x ∈ a, 0 ≤ x ∧ x ≤ 9) : Lib.compact ((a.filter (fun x => !has b x)).mergeSort (fun x y => decide (x ≤ y))) = missTo a b 10 := by
  obtain ⟨h1, h2⟩ := compact_strict (zs := (a.filter (fun x => !has b x)).mergeSort (fun x y => decide (x ≤ y))) (by
    have := List.pairwise_mergeSort (le := fun x y : Int => decide (x ≤ y)) (by intro a b c; simp; omega) (by intro a b; simp; omega) (a.filter (fun x => !has b x))
    exact this.imp fun h => by simpa using h)
  obtain ⟨h3, h4⟩ := missTo_spec a b 10
  refine asc_uniq h1 h3 fun x => ?_
  rw [h2, h4, List.mem_mergeSort, List.mem_filter]
  constructor
  · rintro ⟨hx, hb⟩
    have := h x hx
    exact ⟨x.toNat, by omega, by omega, by simp [has, hx], by simpa using hb⟩
  · rintro ⟨j, _, rfl, ha, hb⟩
    exact ⟨by simpa [has] using ha, by simp [hb]⟩
/-- MissingValues. -/
def missing (db : DDb) (x : DIn) : List Int := if validIn db x then missTo (colVals (lookT (look db x.1)).2.2 x.2.1.toNat) (colVals (lookT (look db x.2.2.1)).2.2 x.2.2.2.toNat) 10 else []
theorem missing_len (db : DDb) (x : DIn) : (missing db x).length ≤ 10 := by
  unfold missing; split
  · exact missTo_len _ _ 10
  · simp

end Go.Proofs.Ytbkoddikfpkocaa

/- Contracts: values that are missing, by the program. -/
namespace Go.Proofs.Ytbkoddikfpkocaa
open Go.RowKit
set_option linter.unusedVariables false
set_option linter.unusedSimpArgs false
set_option synthInstance.maxSize 2000
set_option synthInstance.maxHeartbeats 400000

theorem validIn_facts {db : DDb} {m1 m2 : ByteArray} {c1 c2 : Int} (h : validIn db (m1, c1, m2, c2) = true) : (look db m1).isSome = true ∧ (look db m2).isSome = true ∧ ∃ n1 n2 : Nat, c1 = (n1 : Int) ∧ c2 = (n2 : Int) ∧ (n1 : Int) < (lookT (look db m1)).2.1 ∧ (n2 : Int) < (lookT (look db m2)).2.1 := by
  simp only [validIn, Bool.and_eq_true, betw, decide_eq_true_eq] at h
  obtain ⟨h1, h2, ⟨h3, h4⟩, h5, h6⟩ := h
  exact ⟨h1, h2, c1.toNat, c2.toNat, by omega, by omega, by omega, by omega⟩
theorem colVals_step {rows : List (List Int)} {c j : Nat} {r : List Int} {v : Int} (h : rows[j]? = some r) (hv : r.getD c 0 = v) : colVals (rows.take (j + 1)) c = colVals (rows.take j) c ++ [v] := by
  rw [List.take_add_one, h]; simp only [colVals, Option.toList_some, List.map_append, List.map_cons, List.map_nil, hv]
theorem colVals_len (rows : List (List Int)) (c : Nat) : (colVals rows c).length = rows.length := by simp [colVals]
theorem colVals_rng {t : DT} (h : TOk t) {c : Nat} (hc : (c : Int) < t.2.1) : ∀ x ∈ colVals t.2.2 c, 0 ≤ x ∧ x ≤ 9 := by
  intro x hx
  simp only [colVals, List.mem_map] at hx
  obtain ⟨r, hr, rfl⟩ := hx
  obtain ⟨h1, h2⟩ := h.row r hr
  refine h2 _ ?_
  rw [List.getD_eq_getElem?_getD, List.getElem?_eq_getElem (by omega)]
  exact List.getElem_mem _
/-- Those of the first j values of a column that are not there. -/
def newVals (rows : List (List Int)) (c : Nat) (b : List Int) : List Int := (colVals rows c).filter (fun x => !has b x)
theorem newVals_yes {rows : List (List Int)} {c j : Nat} {r b : List Int} {v : Int} (h : rows[j]? = some r) (hv : r.getD c 0 = v) (hb : has b v = false) : newVals (rows.take (j + 1)) c b = newVals (rows.take j) c b ++ [v] := by
  rw [newVals, colVals_step h hv, List.filter_append]; simp [newVals, hb]
theorem newVals_no {rows : List (List Int)} {c j : Nat} {r b : List Int} {v : Int} (h : rows[j]? = some r) (hv : r.getD c 0 = v) (hb : has b v = true) : newVals (rows.take (j + 1)) c b = newVals (rows.take j) c b := by
  rw [newVals, colVals_step h hv, List.filter_append]; simp [newVals, hb]
theorem newVals_len (rows : List (List Int)) (c : Nat) (b : List Int) : (newVals rows c b).length ≤ rows.length := by
  rw [newVals, ← colVals_len rows c]; exact List.length_filter_le _ _

set_option maxHeartbeats 4000000 in
theorem missing_impl (cs ds : List Value) (db : DDb) (x : DIn) (w : World) (h : rDb.rep w cs db) (h' : rIn.rep w ds x) :
    Calls Try.prog 79 #[.agg cs.toArray, .agg ds.toArray] w fun e w' => ∃ u, e = .returned u ∧ Own oI w.heap.size w'.heap.size w' [u] (missing db x) ∧ Below w.heap.size w w' := by
  obtain ⟨ub, un, uc, rfl, g1⟩ := rDb_open h
  obtain ⟨rfl, hs0, hi1, hs2, hi3⟩ := rIn_open h'
  have hcv := fun W (hW : Below w.heap.size w W) => validIn_impl _ _ db x W (rDb.mono h hW) (rIn.mono h' hW)
  obtain ⟨m1, c1, m2, c2⟩ := x
  simp only at hs0 hi1 hs2 hi3 hcv
  have HCV := Lib.hid hcv
  have HCK := Lib.hid (fun name W (hW : Below w.heap.size w W) => lookI_any [.slice ub un uc] db name W (rDb.mono h hW))
  clear hcv h h' g1 hs0 hi1 hs2 hi3
  have hb0 : Below w.heap.size w w := Below.refl _ _
  go_enter Try.func79, Try.ntmps79
  obtain ⟨w1, hw1⟩ : ∃ W, W = w.alloc (.cells #[.slice ub un uc] 89) := ⟨_, rfl⟩
  have z1 : Below w.heap.size w w1 := by rw [hw1]; exact (Below.refl _ _).alloc (Nat.le_refl _) _
  have s1 : w1.heap.size = w.heap.size + 1 := by rw [hw1]; simp
  have hb1 := on hb0 z1
  have b_0 : w1.cell? ⟨w.heap.size, 0, none⟩ = some (.slice ub un uc) := by rw [hw1]; exact box_cell (Below.refl _ _) rfl
  have raw1_b_0 := b_0
  rw [hw1] at raw1_b_0
  obtain ⟨w2, hw2⟩ : ∃ W, W = w1.alloc (.cells #[.string m1, .int .i64 c1, .string m2, .int .i64 c2] 91) := ⟨_, rfl⟩
  have z2 : Below w1.heap.size w1 w2 := by rw [hw2]; exact (Below.refl _ _).alloc (Nat.le_refl _) _
  have s2 : w2.heap.size = w1.heap.size + 1 := by rw [hw2]; simp
  have hb2 := on hb1 z2
  replace b_0 := (z2.cell (p := ⟨w.heap.size, 0, none⟩) (by simp only []; omega)).trans b_0
  have e2 : w1.heap.size = w.heap.size + 1 := by omega
  have x_0 : w2.cell? ⟨w1.heap.size, 0, none⟩ = some (.string m1) := by rw [hw2]; exact box_cell (Below.refl _ _) rfl
  have x_1 : w2.cell? ⟨w1.heap.size, 1, none⟩ = some (.int .i64 c1) := by rw [hw2]; exact box_cell (Below.refl _ _) rfl
  have x_2 : w2.cell? ⟨w1.heap.size, 2, none⟩ = some (.string m2) := by rw [hw2]; exact box_cell (Below.refl _ _) rfl
  have x_3 : w2.cell? ⟨w1.heap.size, 3, none⟩ = some (.int .i64 c2) := by rw [hw2]; exact box_cell (Below.refl _ _) rfl
  rw [e2] at x_0 x_1 x_2 x_3
  have raw2_b_0 := b_0
  have raw2_x_0 := x_0
  have raw2_x_1 := x_1
  have raw2_x_2 := x_2
  have raw2_x_3 := x_3
  rw [hw2, hw1] at raw2_b_0 raw2_x_0 raw2_x_1 raw2_x_2 raw2_x_3
  go_wp2_with fail
  rw [← hw1]
  rw [← hw2]
  clear hw2 hw1
  clear raw1_b_0 raw2_b_0 raw2_x_0 raw2_x_1 raw2_x_2 raw2_x_3
  refine (HCV.out _ hb2).mono ?_
  rintro e wA ⟨rfl, zA⟩
  have s3 := zA.size
  have hb3 := on hb2 zA
  replace b_0 := (zA.cell (p := ⟨w.heap.size, 0, none⟩) (by simp only []; omega)).trans b_0
  replace x_0 := (zA.cell (p := ⟨w.heap.size + 1, 0, none⟩) (by simp only []; omega)).trans x_0
  replace x_1 := (zA.cell (p := ⟨w.heap.size + 1, 1, none⟩) (by simp only []; omega)).trans x_1
  replace x_2 := (zA.cell (p := ⟨w.heap.size + 1, 2, none⟩) (by simp only []; omega)).trans x_2
  replace x_3 := (zA.cell (p := ⟨w.heap.size + 1, 3, none⟩) (by simp only []; omega)).trans x_3
  by_cases hv : validIn db (m1, c1, m2, c2) = true
  case neg =>
    replace hv : validIn db (m1, c1, m2, c2) = false := by simpa using hv
    have HE : Hid (missing db (m1, c1, m2, c2) = []) := Lib.hid (by simp [missing, hv])
    rw [hv]
    go_wp2_with fail
    go_ret
    exact ⟨_, rfl, by rw [HE.out]; exact own_nil_S.mono (Nat.le_refl _) (by omega), hb3⟩
  obtain ⟨hsm1, hsm2, n1, n2, rfl, rfl, hn1, hn2⟩ := validIn_facts hv
  have hok1 := look_okT hsm1
  have hok2 := look_okT hsm2
  have HE : Hid (missing db (m1, (n1 : Int), m2, (n2 : Int)) = missTo (colVals (lookT (look db m1)).2.2 n1) (colVals (lookT (look db m2)).2.2 n2) 10) := Lib.hid (by simp [missing, hv])
  rw [hv]
  clear hv
  have hc1 := fun W hW => HCK.out m1 W hW
  have hc2 := fun W hW => HCK.out m2 W hW
  obtain ⟨t1, ht1⟩ : ∃ t, lookT (look db m1) = t := ⟨_, rfl⟩
  obtain ⟨t2, ht2⟩ : ∃ t, lookT (look db m2) = t := ⟨_, rfl⟩
  rw [ht1] at hok1 hn1 HE
  rw [ht2] at hok2 hn2 HE
  simp only [hsm1, ht1] at hc1
  simp only [hsm2, ht2] at hc2
  obtain ⟨ns, A, r1⟩ := t1
  obtain ⟨ms, B, r2⟩ := t2
  simp only at hn1 hn2 HE hc1 hc2
  have hl8a := hok1.len
  have hl8b := hok2.len
  have HR1 := Lib.hid hok1.row
  have HR2 := Lib.hid hok2.row
  have HM := Lib.hid (miss_impl (b := colVals r2 n2) (colVals_rng hok1 hn1))
  simp only at hl8a hl8b HR1 HR2 HM
  have hA1 := hok1.ar
  have hB1 := hok2.ar
  simp only at hA1 hB1
  have HC1 := Lib.hid hc1
  have HC2 := Lib.hid hc2
  clear hc1 hc2 ht1 ht2 hok1 hok2 hsm1 hsm2 HCK HCV
  go_wp2_with fail
  refine (HC1.out _ hb3).mono ?_
  rintro e wB ⟨vb, vn, vc, rfl, ho, zB⟩
  have s4 := zB.size
  have hb4 := on hb3 zB
  replace b_0 := (zB.cell (p := ⟨w.heap.size, 0, none⟩) (by simp only []; omega)).trans b_0
  replace x_0 := (zB.cell (p := ⟨w.heap.size + 1, 0, none⟩) (by simp only []; omega)).trans x_0
  replace x_1 := (zB.cell (p := ⟨w.heap.size + 1, 1, none⟩) (by simp only []; omega)).trans x_1
  replace x_2 := (zB.cell (p := ⟨w.heap.size + 1, 2, none⟩) (by simp only []; omega)).trans x_2
  replace x_3 := (zB.cell (p := ⟨w.heap.size + 1, 3, none⟩) (by simp only []; omega)).trans x_3
  obtain ⟨vb2, vn2, vc2, he9, hs9, hi9, gr⟩ := rT_open (ho.rd reads_T)
  simp at he9 hs9 hi9 gr
  obtain ⟨rfl, rfl, rfl⟩ := he9
  have t1 := rS_sl gr
  have hl1 := t1.len
  have hn1s := t1.small
  clear ho gr hs9 hi9
  have hT1 : Below wB.heap.size wB wB := Below.refl _ _
  obtain ⟨w5, hw5⟩ : ∃ W, W = wB.alloc (.cells #[.string ns, .int .i64 A, .slice vb vn vc] 34) := ⟨_, rfl⟩
  have z5 : Below wB.heap.size wB w5 := by rw [hw5]; exact (Below.refl _ _).alloc (Nat.le_refl _) _
  have s5 : w5.heap.size = wB.heap.size + 1 := by rw [hw5]; simp
  have hb5 := on hb4 z5
  have old5_b_0 := b_0
  have old5_x_0 := x_0
  have old5_x_1 := x_1
  have old5_x_2 := x_2
  have old5_x_3 := x_3
  replace b_0 := (z5.cell (p := ⟨w.heap.size, 0, none⟩) (by simp only []; omega)).trans b_0
  replace x_0 := (z5.cell (p := ⟨w.heap.size + 1, 0, none⟩) (by simp only []; omega)).trans x_0
  replace x_1 := (z5.cell (p := ⟨w.heap.size + 1, 1, none⟩) (by simp only []; omega)).trans x_1
  replace x_2 := (z5.cell (p := ⟨w.heap.size + 1, 2, none⟩) (by simp only []; omega)).trans x_2
  replace x_3 := (z5.cell (p := ⟨w.heap.size + 1, 3, none⟩) (by simp only []; omega)).trans x_3
  replace hT1 := on hT1 z5
  have ta_0 : w5.cell? ⟨wB.heap.size, 0, none⟩ = some (.string ns) := by rw [hw5]; exact box_cell (Below.refl _ _) rfl
  have ta_1 : w5.cell? ⟨wB.heap.size, 1, none⟩ = some (.int .i64 A) := by rw [hw5]; exact box_cell (Below.refl _ _) rfl
  have ta_2 : w5.cell? ⟨wB.heap.size, 2, none⟩ = some (.slice vb vn vc) := by rw [hw5]; exact box_cell (Below.refl _ _) rfl
  have raw5_b_0 := b_0
  have raw5_x_0 := x_0
  have raw5_x_1 := x_1
  have raw5_x_2 := x_2
  have raw5_x_3 := x_3
  have raw5_ta_0 := ta_0
  have raw5_ta_1 := ta_1
  have raw5_ta_2 := ta_2
  rw [hw5] at raw5_b_0 raw5_x_0 raw5_x_1 raw5_x_2 raw5_x_3 raw5_ta_0 raw5_ta_1 raw5_ta_2
  go_wp2_with fail
  rw [← hw5]
  clear hw5
  clear old5_b_0 old5_x_0 old5_x_1 old5_x_2 old5_x_3 raw5_b_0 raw5_x_0 raw5_x_1 raw5_x_2 raw5_x_3 raw5_ta_0 raw5_ta_1 raw5_ta_2
  refine (HC2.out _ hb5).mono ?_
  rintro e wC ⟨ub2, un2, uc2, rfl, ho, zC⟩
  have s6 := zC.size
  have hb6 := on hb5 zC
  replace b_0 := (zC.cell (p := ⟨w.heap.size, 0, none⟩) (by simp only []; omega)).trans b_0
  replace x_0 := (zC.cell (p := ⟨w.heap.size + 1, 0, none⟩) (by simp only []; omega)).trans x_0
  replace x_1 := (zC.cell (p := ⟨w.heap.size + 1, 1, none⟩) (by simp only []; omega)).trans x_1
  replace x_2 := (zC.cell (p := ⟨w.heap.size + 1, 2, none⟩) (by simp only []; omega)).trans x_2
  replace x_3 := (zC.cell (p := ⟨w.heap.size + 1, 3, none⟩) (by simp only []; omega)).trans x_3
  replace hT1 := on hT1 zC
  replace ta_0 := (zC.cell (p := ⟨wB.heap.size, 0, none⟩) (by simp only []; omega)).trans ta_0
  replace ta_1 := (zC.cell (p := ⟨wB.heap.size, 1, none⟩) (by simp only []; omega)).trans ta_1
  replace ta_2 := (zC.cell (p := ⟨wB.heap.size, 2, none⟩) (by simp only []; omega)).trans ta_2
  obtain ⟨vb3, vn3, vc3, he9, hs9, hi9, gr⟩ := rT_open (ho.rd reads_T)
  simp at he9 hs9 hi9 gr
  obtain ⟨rfl, rfl, rfl⟩ := he9
  have t2 := rS_sl gr
  have hl2 := t2.len
  have hn2s := t2.small
  clear ho gr hs9 hi9 HC1 HC2
  have hT2 : Below wC.heap.size wC wC := Below.refl _ _
  obtain ⟨w7, hw7⟩ : ∃ W, W = wC.alloc (.cells #[.string ms, .int .i64 B, .slice ub2 un2 uc2] 34) := ⟨_, rfl⟩
  have z7 : Below wC.heap.size wC w7 := by rw [hw7]; exact (Below.refl _ _).alloc (Nat.le_refl _) _
  have s7 : w7.heap.size = wC.heap.size + 1 := by rw [hw7]; simp
  have hb7 := on hb6 z7
  have old7_b_0 := b_0
  have old7_x_0 := x_0
  have old7_x_1 := x_1
  have old7_x_2 := x_2
  have old7_x_3 := x_3
  have old7_ta_0 := ta_0
  have old7_ta_1 := ta_1
  have old7_ta_2 := ta_2
  replace b_0 := (z7.cell (p := ⟨w.heap.size, 0, none⟩) (by simp only []; omega)).trans b_0
  replace x_0 := (z7.cell (p := ⟨w.heap.size + 1, 0, none⟩) (by simp only []; omega)).trans x_0
  replace x_1 := (z7.cell (p := ⟨w.heap.size + 1, 1, none⟩) (by simp only []; omega)).trans x_1
  replace x_2 := (z7.cell (p := ⟨w.heap.size + 1, 2, none⟩) (by simp only []; omega)).trans x_2
  replace x_3 := (z7.cell (p := ⟨w.heap.size + 1, 3, none⟩) (by simp only []; omega)).trans x_3
  replace hT1 := on hT1 z7
  replace ta_0 := (z7.cell (p := ⟨wB.heap.size, 0, none⟩) (by simp only []; omega)).trans ta_0
  replace ta_1 := (z7.cell (p := ⟨wB.heap.size, 1, none⟩) (by simp only []; omega)).trans ta_1
  replace ta_2 := (z7.cell (p := ⟨wB.heap.size, 2, none⟩) (by simp only []; omega)).trans ta_2
  replace hT2 := on hT2 z7
  have tb_0 : w7.cell? ⟨wC.heap.size, 0, none⟩ = some (.string ms) := by rw [hw7]; exact box_cell (Below.refl _ _) rfl
  have tb_1 : w7.cell? ⟨wC.heap.size, 1, none⟩ = some (.int .i64 B) := by rw [hw7]; exact box_cell (Below.refl _ _) rfl
  have tb_2 : w7.cell? ⟨wC.heap.size, 2, none⟩ = some (.slice ub2 un2 uc2) := by rw [hw7]; exact box_cell (Below.refl _ _) rfl
  have raw7_b_0 := b_0
  have raw7_x_0 := x_0
  have raw7_x_1 := x_1
  have raw7_x_2 := x_2
  have raw7_x_3 := x_3
  have raw7_ta_0 := ta_0
  have raw7_ta_1 := ta_1
  have raw7_ta_2 := ta_2
  have raw7_tb_0 := tb_0
  have raw7_tb_1 := tb_1
  have raw7_tb_2 := tb_2
  rw [hw7] at raw7_b_0 raw7_x_0 raw7_x_1 raw7_x_2 raw7_x_3 raw7_ta_0 raw7_ta_1 raw7_ta_2 raw7_tb_0 raw7_tb_1 raw7_tb_2
  go_wp2_with fail
  rw [← hw7]
  clear hw7
  clear old7_b_0 old7_x_0 old7_x_1 old7_x_2 old7_x_3 old7_ta_0 old7_ta_1 old7_ta_2 raw7_b_0 raw7_x_0 raw7_x_1 raw7_x_2 raw7_x_3 raw7_ta_0 raw7_ta_1 raw7_ta_2 raw7_tb_0 raw7_tb_1 raw7_tb_2
  obtain ⟨w8, hw8⟩ : ∃ W, W = w7.alloc (.cells #[] 3) := ⟨_, rfl⟩
  have z8 : Below w7.heap.size w7 w8 := by rw [hw8]; exact (Below.refl _ _).alloc (Nat.le_refl _) _
  have s8 : w8.heap.size = w7.heap.size + 1 := by rw [hw8]; simp
  have hb8 := on hb7 z8
  replace b_0 := (z8.cell (p := ⟨w.heap.size, 0, none⟩) (by simp only []; omega)).trans b_0
  replace x_0 := (z8.cell (p := ⟨w.heap.size + 1, 0, none⟩) (by simp only []; omega)).trans x_0
  replace x_1 := (z8.cell (p := ⟨w.heap.size + 1, 1, none⟩) (by simp only []; omega)).trans x_1
  replace x_2 := (z8.cell (p := ⟨w.heap.size + 1, 2, none⟩) (by simp only []; omega)).trans x_2
  replace x_3 := (z8.cell (p := ⟨w.heap.size + 1, 3, none⟩) (by simp only []; omega)).trans x_3
  replace hT1 := on hT1 z8
  replace ta_0 := (z8.cell (p := ⟨wB.heap.size, 0, none⟩) (by simp only []; omega)).trans ta_0
  replace ta_1 := (z8.cell (p := ⟨wB.heap.size, 1, none⟩) (by simp only []; omega)).trans ta_1
  replace ta_2 := (z8.cell (p := ⟨wB.heap.size, 2, none⟩) (by simp only []; omega)).trans ta_2
  replace hT2 := on hT2 z8
  replace tb_0 := (z8.cell (p := ⟨wC.heap.size, 0, none⟩) (by simp only []; omega)).trans tb_0
  replace tb_1 := (z8.cell (p := ⟨wC.heap.size, 1, none⟩) (by simp only []; omega)).trans tb_1
  replace tb_2 := (z8.cell (p := ⟨wC.heap.size, 2, none⟩) (by simp only []; omega)).trans tb_2
  have he1 : ∀ S, Acc 3 O.int w7.heap.size S w8.heap.size w8 (.slice (some ⟨wC.heap.size + 1, 0, none⟩) 0 0) [] := fun S => by rw [hw8]; exact Acc.empty (by omega) (by first | (simp; done) | (simp; omega))
  have raw8_b_0 := b_0
  have raw8_x_0 := x_0
  have raw8_x_1 := x_1
  have raw8_x_2 := x_2
  have raw8_x_3 := x_3
  have raw8_ta_0 := ta_0
  have raw8_ta_1 := ta_1
  have raw8_ta_2 := ta_2
  have raw8_tb_0 := tb_0
  have raw8_tb_1 := tb_1
  have raw8_tb_2 := tb_2
  rw [hw8] at raw8_b_0 raw8_x_0 raw8_x_1 raw8_x_2 raw8_x_3 raw8_ta_0 raw8_ta_1 raw8_ta_2 raw8_tb_0 raw8_tb_1 raw8_tb_2
  go_wp2_with fail
  rw [← hw8]
  clear hw8
  clear raw8_b_0 raw8_x_0 raw8_x_1 raw8_x_2 raw8_x_3 raw8_ta_0 raw8_ta_1 raw8_ta_2 raw8_tb_0 raw8_tb_1 raw8_tb_2
  go_loopw [9, 38] (fun v k wr => ∃ j : Nat, j ≤ un2 ∧ k = .int .i64 j ∧ Acc 3 O.int w7.heap.size w8.heap.size wr.heap.size wr v (colVals (r2.take j) n2) ∧ Turn w7.heap.size (w7.heap.size + 1) w8 wr) (fun _ k _ => un2 - (intOf k).toNat)
  case atStart => exact ⟨0, Nat.zero_le _, rfl, by rw [List.take_zero]; exact (he1 _).wide (Nat.le_refl _) (by omega), turn_refl _ _ _⟩
  case round =>
    obtain ⟨j, hj, rfl, hacc, hdr⟩ := hrel
    have hlc := hdr
    obtain ⟨wo, rfl⟩ : ∃ W, W = wr := ⟨_, rfl⟩
    have s9 := hdr.size
    have hb9 := hb8.trans ((hdr.below (by omega)).mono (by omega))
    replace b_0 := (hdr.cell (p := ⟨w.heap.size, 0, none⟩) (by simp only []; omega) (by simp only []; omega)).trans b_0
    replace x_0 := (hdr.cell (p := ⟨w.heap.size + 1, 0, none⟩) (by simp only []; omega) (by simp only []; omega)).trans x_0
    replace x_1 := (hdr.cell (p := ⟨w.heap.size + 1, 1, none⟩) (by simp only []; omega) (by simp only []; omega)).trans x_1
    replace x_2 := (hdr.cell (p := ⟨w.heap.size + 1, 2, none⟩) (by simp only []; omega) (by simp only []; omega)).trans x_2
    replace x_3 := (hdr.cell (p := ⟨w.heap.size + 1, 3, none⟩) (by simp only []; omega) (by simp only []; omega)).trans x_3
    replace ta_0 := (hdr.cell (p := ⟨wB.heap.size, 0, none⟩) (by simp only []; omega) (by simp only []; omega)).trans ta_0
    replace ta_1 := (hdr.cell (p := ⟨wB.heap.size, 1, none⟩) (by simp only []; omega) (by simp only []; omega)).trans ta_1
    replace ta_2 := (hdr.cell (p := ⟨wB.heap.size, 2, none⟩) (by simp only []; omega) (by simp only []; omega)).trans ta_2
    replace tb_0 := (hdr.cell (p := ⟨wC.heap.size, 0, none⟩) (by simp only []; omega) (by simp only []; omega)).trans tb_0
    replace tb_1 := (hdr.cell (p := ⟨wC.heap.size, 1, none⟩) (by simp only []; omega) (by simp only []; omega)).trans tb_1
    replace tb_2 := (hdr.cell (p := ⟨wC.heap.size, 2, none⟩) (by simp only []; omega) (by simp only []; omega)).trans tb_2
    replace hT1 := hT1.trans ((hlc.below (by omega)).mono (by omega))
    replace hT2 := hT2.trans ((hlc.below (by omega)).mono (by omega))
    have hal : (colVals (r2.take j) n2).length ≤ 8 := by rw [colVals_len]; have := List.length_take_le j r2; omega
    by_cases hlt : j < un2
    · obtain ⟨b1, o1, yb, yn, yc, y, rfl, hcy, hy, iy, _⟩ := t2.row hlt
      have hyA := (HR2.out y (List.mem_of_getElem? hy.out)).1
      have hyl := iy.len
      have hbt1 : b1 < wC.heap.size := cell_lt hcy
      have y0 : wo.cell? ⟨b1, o1 + j, none⟩ = some (.slice yb yn yc) := (hT2.cell (p := ⟨b1, o1 + j, none⟩) hbt1).trans hcy
      obtain ⟨yb1, yo1, yv, hye, hcyv, hyv, hyv1, hyv2⟩ := iy.get (show n2 < yn by omega)
      subst hye
      have hbt2 : yb1 < wC.heap.size := cell_lt hcyv
      have yv0 : wo.cell? ⟨yb1, yo1 + n2, none⟩ = some (.int .i64 yv) := (hT2.cell (p := ⟨yb1, yo1 + n2, none⟩) hbt2).trans hcyv
      have hyn : n2 < yn := by omega
      have HS := Lib.hid (colVals_step (c := n2) hy.out hyv.out)
      clear hcy hcyv iy t1 t2 hyA hyl hl1 hl2
      go_wp2_with ((at_builtin; refine wpList_accI _ _ _ _ _ hacc hlc rfl (by omega) (Nat.le_refl _) ⟨by omega, by omega⟩ (by omega) rfl rfl rfl rfl rfl ?_; intro v' wD hacc' ht' hsz'))
      rw [← HS.out] at hacc'
      go_roundw
      case rel => exact ⟨j + 1, by omega, by go_num, hacc', ht'⟩
      case measure => simp [intOf]; omega
    · obtain rfl : j = un2 := by omega
      rw [List.take_of_length_le (by omega)] at hacc
      obtain ⟨sb, sn, sc, rfl⟩ := hacc.form3
      have o1 := hacc.own (B := w7.heap.size) (Nat.le_refl _) (by omega) (Nat.le_refl _)
      obtain ⟨there, hth⟩ : ∃ l, l = colVals r2 n2 := ⟨_, rfl⟩
      rw [← hth] at o1 HE HM
      clear hacc he1 hth hal t2 hl2 hT2
      obtain ⟨w10, hw10⟩ : ∃ W, W = wo.alloc (.cells #[] 3) := ⟨_, rfl⟩
      have z10 : Below wo.heap.size wo w10 := by rw [hw10]; exact (Below.refl _ _).alloc (Nat.le_refl _) _
      have s10 : w10.heap.size = wo.heap.size + 1 := by rw [hw10]; simp
      have hb10 := on hb9 z10
      replace b_0 := (z10.cell (p := ⟨w.heap.size, 0, none⟩) (by simp only []; omega)).trans b_0
      replace x_0 := (z10.cell (p := ⟨w.heap.size + 1, 0, none⟩) (by simp only []; omega)).trans x_0
      replace x_1 := (z10.cell (p := ⟨w.heap.size + 1, 1, none⟩) (by simp only []; omega)).trans x_1
      replace x_2 := (z10.cell (p := ⟨w.heap.size + 1, 2, none⟩) (by simp only []; omega)).trans x_2
      replace x_3 := (z10.cell (p := ⟨w.heap.size + 1, 3, none⟩) (by simp only []; omega)).trans x_3
      replace hT1 := on hT1 z10
      replace ta_0 := (z10.cell (p := ⟨wB.heap.size, 0, none⟩) (by simp only []; omega)).trans ta_0
      replace ta_1 := (z10.cell (p := ⟨wB.heap.size, 1, none⟩) (by simp only []; omega)).trans ta_1
      replace ta_2 := (z10.cell (p := ⟨wB.heap.size, 2, none⟩) (by simp only []; omega)).trans ta_2
      replace tb_0 := (z10.cell (p := ⟨wC.heap.size, 0, none⟩) (by simp only []; omega)).trans tb_0
      replace tb_1 := (z10.cell (p := ⟨wC.heap.size, 1, none⟩) (by simp only []; omega)).trans tb_1
      replace tb_2 := (z10.cell (p := ⟨wC.heap.size, 2, none⟩) (by simp only []; omega)).trans tb_2
      replace o1 := o1.below z10 (by omega)
      have he2 : ∀ S, Acc 3 O.int wo.heap.size S w10.heap.size w10 (.slice (some ⟨wo.heap.size, 0, none⟩) 0 0) [] := fun S => by rw [hw10]; exact Acc.empty (by omega) (by first | (simp; done) | (simp; omega))
      have raw10_b_0 := b_0
      have raw10_x_0 := x_0
      have raw10_x_1 := x_1
      have raw10_x_2 := x_2
      have raw10_x_3 := x_3
      have raw10_ta_0 := ta_0
      have raw10_ta_1 := ta_1
      have raw10_ta_2 := ta_2
      have raw10_tb_0 := tb_0
      have raw10_tb_1 := tb_1
      have raw10_tb_2 := tb_2
      rw [hw10] at raw10_b_0 raw10_x_0 raw10_x_1 raw10_x_2 raw10_x_3 raw10_ta_0 raw10_ta_1 raw10_ta_2 raw10_tb_0 raw10_tb_1 raw10_tb_2
      go_wp2_with fail
      rw [← hw10]
      clear hw10
      clear raw10_b_0 raw10_x_0 raw10_x_1 raw10_x_2 raw10_x_3 raw10_ta_0 raw10_ta_1 raw10_ta_2 raw10_tb_0 raw10_tb_1 raw10_tb_2
      go_loopw [12, 55] (fun v k wr => ∃ j : Nat, j ≤ vn ∧ k = .int .i64 j ∧ Acc 3 O.int wo.heap.size w10.heap.size wr.heap.size wr v (newVals (r1.take j) n1 there) ∧ Turn wo.heap.size (wo.heap.size + 1) w10 wr) (fun _ k _ => vn - (intOf k).toNat)
      case atStart => exact ⟨0, Nat.zero_le _, rfl, by rw [List.take_zero]; exact (he2 _).wide (Nat.le_refl _) (by omega), turn_refl _ _ _⟩
      case round =>
        obtain ⟨i, hi, rfl, hacc, hdr⟩ := hrel
        have hld := hdr
        have s11 := hdr.size
        have hb11 := hb10.trans ((hdr.below (by omega)).mono (by omega))
        replace b_0 := (hdr.cell (p := ⟨w.heap.size, 0, none⟩) (by simp only []; omega) (by simp only []; omega)).trans b_0
        replace x_0 := (hdr.cell (p := ⟨w.heap.size + 1, 0, none⟩) (by simp only []; omega) (by simp only []; omega)).trans x_0
        replace x_1 := (hdr.cell (p := ⟨w.heap.size + 1, 1, none⟩) (by simp only []; omega) (by simp only []; omega)).trans x_1
        replace x_2 := (hdr.cell (p := ⟨w.heap.size + 1, 2, none⟩) (by simp only []; omega) (by simp only []; omega)).trans x_2
        replace x_3 := (hdr.cell (p := ⟨w.heap.size + 1, 3, none⟩) (by simp only []; omega) (by simp only []; omega)).trans x_3
        replace ta_0 := (hdr.cell (p := ⟨wB.heap.size, 0, none⟩) (by simp only []; omega) (by simp only []; omega)).trans ta_0
        replace ta_1 := (hdr.cell (p := ⟨wB.heap.size, 1, none⟩) (by simp only []; omega) (by simp only []; omega)).trans ta_1
        replace ta_2 := (hdr.cell (p := ⟨wB.heap.size, 2, none⟩) (by simp only []; omega) (by simp only []; omega)).trans ta_2
        replace tb_0 := (hdr.cell (p := ⟨wC.heap.size, 0, none⟩) (by simp only []; omega) (by simp only []; omega)).trans tb_0
        replace tb_1 := (hdr.cell (p := ⟨wC.heap.size, 1, none⟩) (by simp only []; omega) (by simp only []; omega)).trans tb_1
        replace tb_2 := (hdr.cell (p := ⟨wC.heap.size, 2, none⟩) (by simp only []; omega) (by simp only []; omega)).trans tb_2
        replace o1 := o1.turn hdr (by omega)
        replace hT1 := hT1.trans ((hld.below (by omega)).mono (by omega))
        have hal : (newVals (r1.take i) n1 there).length ≤ 8 := by have h1 := newVals_len (r1.take i) n1 there; have := List.length_take_le i r1; omega
        by_cases hlt : i < vn
        · obtain ⟨b1, o1', yb, yn, yc, y, rfl, hcy, hy, iy, _⟩ := t1.row hlt
          have hyA := (HR1.out y (List.mem_of_getElem? hy.out)).1
          have hyl := iy.len
          have hbt1 : b1 < wB.heap.size := cell_lt hcy
          have y0 : wr.cell? ⟨b1, o1' + i, none⟩ = some (.slice yb yn yc) := (hT1.cell (p := ⟨b1, o1' + i, none⟩) hbt1).trans hcy
          obtain ⟨yb1, yo1, yv, hye, hcyv, hyv, hyv1, hyv2⟩ := iy.get (show n1 < yn by omega)
          subst hye
          have hbt2 : yb1 < wB.heap.size := cell_lt hcyv
          have yv0 : wr.cell? ⟨yb1, yo1 + n1, none⟩ = some (.int .i64 yv) := (hT1.cell (p := ⟨yb1, yo1 + n1, none⟩) hbt2).trans hcyv
          have hyn : n1 < yn := by omega
          have hcc := contains_any sb sn sc there yv wr (rI_ints (o1.rd reads_I))
          obtain ⟨t, ht⟩ : ∃ t, t = has there yv := ⟨_, rfl⟩
          rw [← ht] at hcc
          have HCC := Lib.hid hcc
          have HSy := Lib.hid (newVals_yes (c := n1) (b := there) hy.out hyv.out)
          have HSn := Lib.hid (newVals_no (c := n1) (b := there) hy.out hyv.out)
          rw [← ht] at HSy HSn
          clear hcy hcyv iy t1 hyA hyl hl1 hcc ht o1
          cases t with
          | false =>
            have HS := Lib.hid (HSy.out rfl)
            go_wp2_with (first
              | (go_at_call 124; refine (HCC.out).mono ?_; rintro e w' ⟨rfl, rfl⟩)
              | (at_builtin; refine wpList_accI _ _ _ _ _ hacc hld rfl (by omega) (Nat.le_refl _) ⟨by omega, by omega⟩ (by omega) rfl rfl rfl rfl rfl ?_; intro v' wD hacc' ht' hsz'))
            rw [← HS.out] at hacc'
            go_roundw
            case rel => exact ⟨i + 1, by omega, by go_num, hacc', ht'⟩
            case measure => simp [intOf]; omega
          | true =>
            rw [← HSn.out rfl] at hacc
            have HA := Lib.hid hacc
            clear hacc
            go_wp2_with (go_at_call 124; refine (HCC.out).mono ?_; rintro e w' ⟨rfl, rfl⟩)
            go_roundw
            case rel => exact ⟨i + 1, by omega, by go_num, HA.out, hld⟩
            case measure => simp [intOf]; omega
        · obtain rfl : i = vn := by omega
          rw [List.take_of_length_le (by omega)] at hacc hal
          obtain ⟨sb2, sn2, sc2, rfl⟩ := hacc.form3
          have o2 := hacc.own (B := w.heap.size) (by omega) (by omega) (Nat.le_refl _)
          have HO := Lib.hid o2
          have hsz9 := (hb11).size
          clear hacc o2 o1 t1 hl1
          go_wp2_with fail
          refine (sortI_any _ _ _ _ _ HO.out (by omega) hsz9).mono ?_
          rintro e wE ⟨rfl, o3, zE⟩
          have hbx := (hb11).trans zE
          have sE := zE.size
          have hsz8 := hbx.size
          go_wp2_with fail
          refine (compactI_any _ _ _ _ _ o3 (by rw [sortL_len]; omega) hsz8).mono ?_
          rintro e wF ⟨u, rfl, o4, zF⟩
          have sF := zF.size
          go_wp2_with fail
          go_ret
          exact ⟨_, rfl, by rw [HE.out, ← HM.out]; exact o4.mono (Nat.le_refl _) (by omega), hbx.trans zF⟩

end Go.Proofs.Ytbkoddikfpkocaa
