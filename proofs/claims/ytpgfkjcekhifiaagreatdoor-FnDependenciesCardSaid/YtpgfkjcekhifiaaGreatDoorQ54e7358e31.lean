/- Texts joined for one claim: Copy, Look, KeyP, Look2. -/
import Derived.Test.YtpgfkjcekhifiaaGreatDoorQ6748bab5ad
import Derived.Test.YtpgfkjcekhifiaaGreatDoorQe58ef1fdfa
import Derived.Test.YtpgfkjcekhifiaaGreatDoorQ773e0f5bcd
import Derived.Test.YtpgfkjcekhifiaaGreatDoorQ172172a568
import Derived.Test.YtpgfkjcekhifiaaGreatDoorQcf99a0f50f
import Derived.Deep.AppendSrc

namespace Go.Proofs.YtpgfkjcekhifiaaGreatDoor

open Go.RowKit Go.Sort

set_option linter.unusedVariables false

set_option linter.unusedSimpArgs false

set_option synthInstance.maxSize 2000

set_option synthInstance.maxHeartbeats 400000

theorem wpList_copyI {W : World} {ops : Array Oper} {rest : List Oper} {o : Oper} {a : Act} {Q : Exit → Act → World → Prop}
    (s x : Operand) (g n c : Nat) (ad : Option Addr) (xs : List Int) (hg : W.heap.size = g) (hi : Ints (W.alloc (.cells #[] 3)) ad n xs) (hn : n ≤ 1000000000000)
    (hgd : o.guard = none) (ho : o.op = .call { callee := .builtin .append, args := #[s, x], argTypes := #[27, 27] })
    (hs : a.eval s = .slice (some ⟨g, 0, none⟩) 0 0) (hx : a.eval x = .slice ad n c)
    (h : ∀ v' w', OwnInts W.heap.size w' v' n xs → Below W.heap.size W w' → W.heap.size < w'.heap.size → wpList Tryz.prog ops Q rest (a.put o.dst v') w') :
    wpList Tryz.prog ops Q (o :: rest) a (W.alloc (.cells #[] 3)) := by
  subst hg
  obtain ⟨i, hi0, hz0, hz1, hz2⟩ := info_parts infoInt
  have hown := own_empty (Nat.le_refl W.heap.size)
  have hbl : Below W.heap.size W (W.alloc (.cells #[] 3)) := (Below.refl _ _).alloc (Nat.le_refl _) _
  cases ad with
  | none =>
    have hn0 : n = 0 := by
      rcases Nat.eq_zero_or_pos n with h0 | h0
      · exact h0
      · obtain ⟨b, off, hb, _⟩ := hi.cell 0 h0; simp at hb
    subst hn0
    have hx0 : xs = [] := List.eq_nil_of_length_eq_zero hi.len
    subst hx0
    refine wpList_plain hgd fun K hK => ?_
    have hr : (Builtin.append_ #[27, 27] o.type #[.slice (some ⟨W.heap.size, 0, none⟩) 0 0, .slice none 0 c]).run Tryz.prog (W.alloc (.cells #[] 3)) = .ok (.slice (some ⟨W.heap.size, 0, none⟩) 0 0) (W.alloc (.cells #[] 3)) := run_append_room_src (P := Tryz.prog) (W.alloc (.cells #[] 3)) 27 27 o.type 3 i Tryz.underlying27 hi0 W.heap.size 0 0 0 (.slice none 0 c) 0 [] (Src.ofNil _ Tryz.underlying27 c) (by omega) (by simp) (by simp)
    unfold Oper.wp execOp
    simp only [ho, resolve, invoke, builtin, Sem.run_bind, Sem.run_pure, Result.andThen_ok, List.map_toArray, List.map_cons, List.map_nil, hs, hx, hr]
    exact hK _ _ (h _ _ hown hbl (by simp))
  | some ad =>
    have hnews : ∀ j u, (xs.map (Value.int .i64))[j]? = some u → (W.alloc (.cells #[] 3)).cell? (ad.add j) = some u := by
      intro j u hu
      rw [List.getElem?_map] at hu
      have hj : j < n := by
        rw [← hi.len]
        rcases Nat.lt_or_ge j xs.length with h1 | h1
        · exact h1
        · rw [List.getElem?_eq_none h1] at hu; simp at hu
      obtain ⟨b, off, hb, hc⟩ := hi.cell j hj
      simp at hb
      subst hb
      rw [List.getD_eq_getElem?_getD] at hc
      rw [List.getElem?_eq_getElem (by rw [hi.len]; exact hj)] at hu hc
      simp at hu
      subst hu
      rw [Addr.add_lit]
      simpa using hc
    refine wpList_append_own _ hgd s x 27 ho W.heap.size 3 i (.int .i64 0) 1 8 Tryz.underlying27 hi0 hz0 hz1 hz2 rfl (by decide) _ 0 [] hs (by simpa using hown.row) ad n c (xs.map (Value.int .i64)) hx (by simp [hi.len]) hnews (by intro z hz; simp at hz; obtain ⟨y, _, rfl⟩ := hz; rfl) (by unfold maxLen; omega) (by omega) (by simp) ?_
    intro v' w' h1 h2 _
    refine h v' w' ⟨hi.len, by simpa using h1, hi.rng⟩ (hbl.grown h2 (by simp) (fun k hk => by simp [Value.ownBlock] at hk; omega)) ?_
    have := h2.size; simp at this; omega

theorem copyInts_any (v : Value) (xs : List Int) (w : World) (h : rI.rep w [v] xs) (hn : xs.length ≤ 100000000) :
    Calls Tryz.prog 107 #[v] w fun e w' => ∃ u, e = .returned u ∧ Own oI w.heap.size w'.heap.size w' [u] xs ∧ Below w.heap.size w w' := by
  obtain ⟨a, cap, rfl, _, _, hi⟩ := rI_open h
  have hi2 := hi.below ((Below.refl _ _).alloc (Nat.le_refl _) (.cells #[] 3))
  clear h
  go_enter Tryz.func107, Tryz.ntmps107
  go_wp2_with ((at_builtin; refine wpList_copyI _ _ _ _ _ _ xs rfl hi2 (by omega) rfl rfl rfl rfl ?_; intro v' w1 hown hb hsz))
  obtain ⟨a', cap', rfl, _⟩ := own_form hown.row
  go_wp2_with fail
  go_ret
  exact ⟨_, rfl, hown.own, hb⟩

theorem infoI : (Tryz.prog.info? 27).map (fun i => (i.zero, i.size, i.bytes)) = some (some (.slice none 0 0), 1, 24) := by kernel_rfl

set_option maxHeartbeats 1000000 in
theorem copyRows_any (v : Value) (xss : List (List Int)) (w : World) (h : rII.rep w [v] xss) (hn : bulk_II xss ≤ 100000000) :
    Calls Tryz.prog 92 #[v] w fun e w' => ∃ u, e = .returned u ∧ Own oII w.heap.size w'.heap.size w' [u] xss ∧ Below w.heap.size w w' := by
  obtain ⟨a, cap, rfl, _, _, t0⟩ := rS_open h
  clear h
  obtain ⟨n, hl⟩ : ∃ n, xss.length = n := ⟨_, rfl⟩
  rw [hl] at t0 ⊢
  have hn1 : n ≤ 100000000 := by unfold bulk_II at hn; omega
  have hrows : ∀ (j : Nat) (r : List Int), xss[j]? = some r → r.length ≤ 100000000 := fun j r hr => by
    have h9 := sumBy_mem bulk_I hr; unfold bulk_II at hn; unfold bulk_I at h9 hn; omega
  have HR := Lib.hid hrows
  clear hn hrows
  have hb0 : Below w.heap.size w w := Below.refl _ _
  go_enter Tryz.func92, Tryz.ntmps92
  obtain ⟨w1, hw1⟩ : ∃ W, W = w.alloc (.cells #[] 27) := ⟨_, rfl⟩
  have z1 : Below w.heap.size w w1 := by rw [hw1]; exact (Below.refl _ _).alloc (Nat.le_refl _) _
  have s1 : w1.heap.size = w.heap.size + 1 := by rw [hw1]; simp
  have hb1 := on hb0 z1
  have ho : ∀ S, Acc 27 oI w.heap.size S w1.heap.size w1 (.slice (some ⟨w.heap.size, 0, none⟩) 0 0) [] := fun S => by rw [hw1]; exact Acc.empty (by omega) (by first | (simp; done) | (simp; omega))
  go_wp2_with fail
  rw [← hw1]
  clear hw1
  go_loopw [3, 9] (fun v k wr => ∃ j : Nat, j ≤ n ∧ k = .int .i64 j ∧ Acc 27 oI w.heap.size w1.heap.size wr.heap.size wr v (xss.take j) ∧ Turn w.heap.size (w.heap.size + 1) w1 wr) (fun _ k _ => n - (intOf k).toNat)
  case atStart => exact ⟨0, Nat.zero_le _, rfl, by rw [List.take_zero]; exact (ho _).wide (Nat.le_refl _) (by omega), turn_refl _ _ _⟩
  case round =>
    obtain ⟨j, hj, rfl, hacc, hdr⟩ := hrel
    have hlc := hdr
    have hE0 : w1.heap.size = w.heap.size + 1 := by omega
    clear ho
    have s2 := hdr.size
    have hb2 := hb1.trans ((hdr.below (by omega)).mono (by omega))
    have hlen : (xss.take j).length ≤ j := List.length_take_le _ _
    by_cases hlt : j < n
    · obtain ⟨b0, o0, r1, m1, q1, x, rfl, hc, hx, hi, hq1, hq2⟩ := t0.row hlt
      have hclt : b0 < w.heap.size := cell_lt hc
      have c0 : wr.cell? ⟨b0, o0 + j, none⟩ = some (.slice r1 m1 q1) := (hb2.cell (p := ⟨b0, o0 + j, none⟩) hclt).trans hc
      have hrep : rI.rep w [.slice r1 m1 q1] x := rI_mk hi hq1 hq2
      have HT := Lib.hid (take_snoc' xss j x hx.out)
      have hxl := HR.out j x hx.out
      clear hc hx hi t0 hl hE0
      go_wp2_with fail
      refine (copyInts_any _ x _ (rI.mono hrep hb2) hxl).mono ?_
      rintro e w8 ⟨u, rfl, oy, z8⟩
      obtain ⟨ab, nb, cb, rfl⟩ := oI_form1 oy
      have s3 := z8.size
      have hb3 := on hb2 z8
      replace hlc := hlc.trans (turn_below z8 (Nat.le_refl _))
      replace hacc := hacc.below z8 (by omega)
      replace c0 := bxc z8 c0
      have hone : ∀ z ∈ [Value.slice ab nb cb], z.oneCell' = true := by intro z hz; simp at hz; subst hz; rfl
      go_wp2_with ((at_builtin; refine wpList_acc Tryz.underlying39 infoI rfl (by decide) (by decide) rfl _ _ _ _ [.slice ab nb cb] x hacc oy hone (by omega) (by omega) (by omega) (by omega) hlc rfl (by omega) (by omega) rfl rfl rfl rfl rfl ?_; intro v' w1 hacc' ht' hsz'))
      rw [← HT.out] at hacc'
      go_roundw
      case rel => exact ⟨j + 1, by omega, by go_num, hacc', ht'⟩
      case measure => simp [intOf]; omega
    · obtain rfl : j = n := by omega
      obtain ⟨a', n', cap2, rfl⟩ := hacc.form3
      rw [List.take_of_length_le (by omega)] at hacc
      have HO := Lib.hid (hacc.own (B := w.heap.size) (hi' := wr.heap.size) (by omega) (by omega) (by omega))
      clear hacc t0 hl
      go_wp2_with fail
      go_ret
      exact ⟨_, rfl, HO.out, hb2⟩

set_option maxHeartbeats 1000000 in
theorem copyTable_any (cs : List Value) (x : DT) (w : World) (h : rT.rep w cs x) (hn : bulk_T x ≤ 100000000) :
    Calls Tryz.prog 73 #[.agg cs.toArray] w fun e w' => ∃ ds, e = .returned (.agg ds.toArray) ∧ Own oT w.heap.size w'.heap.size w' ds x ∧ Below w.heap.size w w' := by
  obtain ⟨ub, un, uc, rfl, hs, hi, g1⟩ := rT_open h
  clear h
  obtain ⟨s, i, rows⟩ := x
  simp only at hs hi g1
  have hn2 : bulk_II rows ≤ 100000000 := by unfold bulk_T at hn; simp only at hn; omega
  clear hn
  have hb0 : Below w.heap.size w w := Below.refl _ _
  go_enter Tryz.func73, Tryz.ntmps73
  obtain ⟨w1, hw1⟩ : ∃ W, W = w.alloc (.cells #[.string s, .int .i64 i, .slice ub un uc] 41) := ⟨_, rfl⟩
  have z1 : Below w.heap.size w w1 := by rw [hw1]; exact (Below.refl _ _).alloc (Nat.le_refl _) _
  have s1 : w1.heap.size = w.heap.size + 1 := by rw [hw1]; simp
  have hb1 := on hb0 z1
  have b_0 : w1.cell? ⟨w.heap.size, 0, none⟩ = some (.string s) := by rw [hw1]; exact box_cell (Below.refl _ _) rfl
  have b_1 : w1.cell? ⟨w.heap.size, 1, none⟩ = some (.int .i64 i) := by rw [hw1]; exact box_cell (Below.refl _ _) rfl
  have b_2 : w1.cell? ⟨w.heap.size, 2, none⟩ = some (.slice ub un uc) := by rw [hw1]; exact box_cell (Below.refl _ _) rfl
  have b_f0 : w1.frozen? ⟨w.heap.size, 0, none⟩ = false := by rw [hw1]; exact box_frozen (Below.refl _ _)
  have b_f1 : w1.frozen? ⟨w.heap.size, 1, none⟩ = false := by rw [hw1]; exact box_frozen (Below.refl _ _)
  have b_f2 : w1.frozen? ⟨w.heap.size, 2, none⟩ = false := by rw [hw1]; exact box_frozen (Below.refl _ _)
  have raw1_b_0 := b_0
  have raw1_b_1 := b_1
  have raw1_b_2 := b_2
  rw [hw1] at raw1_b_0 raw1_b_1 raw1_b_2
  obtain ⟨w2, hw2⟩ : ∃ W, W = w1.alloc (.cells #[.string ⟨#[]⟩, .int .i64 0, .slice none 0 0] 41) := ⟨_, rfl⟩
  have z2 : Below w1.heap.size w1 w2 := by rw [hw2]; exact (Below.refl _ _).alloc (Nat.le_refl _) _
  have s2 : w2.heap.size = w1.heap.size + 1 := by rw [hw2]; simp
  have hb2 := on hb1 z2
  replace b_0 := bxc z2 b_0
  replace b_1 := bxc z2 b_1
  replace b_2 := bxc z2 b_2
  replace b_f0 := bxf z2 b_f0
  replace b_f1 := bxf z2 b_f1
  replace b_f2 := bxf z2 b_f2
  have e2 : w1.heap.size = w.heap.size + 1 := by omega
  have r_0 : w2.cell? ⟨w1.heap.size, 0, none⟩ = some (.string ⟨#[]⟩) := by rw [hw2]; exact box_cell (Below.refl _ _) rfl
  have r_1 : w2.cell? ⟨w1.heap.size, 1, none⟩ = some (.int .i64 0) := by rw [hw2]; exact box_cell (Below.refl _ _) rfl
  have r_2 : w2.cell? ⟨w1.heap.size, 2, none⟩ = some (.slice none 0 0) := by rw [hw2]; exact box_cell (Below.refl _ _) rfl
  rw [e2] at r_0 r_1 r_2
  have r_f0 : w2.frozen? ⟨w1.heap.size, 0, none⟩ = false := by rw [hw2]; exact box_frozen (Below.refl _ _)
  have r_f1 : w2.frozen? ⟨w1.heap.size, 1, none⟩ = false := by rw [hw2]; exact box_frozen (Below.refl _ _)
  have r_f2 : w2.frozen? ⟨w1.heap.size, 2, none⟩ = false := by rw [hw2]; exact box_frozen (Below.refl _ _)
  rw [e2] at r_f0 r_f1 r_f2
  have raw2_b_0 := b_0
  have raw2_b_1 := b_1
  have raw2_b_2 := b_2
  have raw2_r_0 := r_0
  have raw2_r_1 := r_1
  have raw2_r_2 := r_2
  rw [hw2, hw1] at raw2_b_0 raw2_b_1 raw2_b_2 raw2_r_0 raw2_r_1 raw2_r_2
  go_wp2_with fail
  rw [← hw1]
  rw [← hw2]
  clear hw2 hw1
  clear raw1_b_0 raw1_b_1 raw1_b_2 raw2_b_0 raw2_b_1 raw2_b_2 raw2_r_0 raw2_r_1 raw2_r_2
  refine (copyRows_any _ rows _ (rII.mono g1 hb2) hn2).mono ?_
  rintro e w9 ⟨u, rfl, ho, z9⟩
  obtain ⟨ab, nb, cb, rfl⟩ := oII_form1 ho
  have s3 := z9.size
  have hb3 := on hb2 z9
  replace b_0 := bxc z9 b_0
  replace b_1 := bxc z9 b_1
  replace b_2 := bxc z9 b_2
  replace b_f0 := bxf z9 b_f0
  replace b_f1 := bxf z9 b_f1
  replace b_f2 := bxf z9 b_f2
  replace r_0 := bxc z9 r_0
  replace r_1 := bxc z9 r_1
  replace r_2 := bxc z9 r_2
  replace r_f0 := bxf z9 r_f0
  replace r_f1 := bxf z9 r_f1
  replace r_f2 := bxf z9 r_f2
  go_wp2_with fail
  refine bodyPost_ret (v := .agg #[.string s, .int .i64 i, .slice ab nb cb]) (by simp [results, Tryz.results73, go_sem, b_0, b_1, b_2, r_0, r_1, r_2, b_f0, b_f1, b_f2, r_f0, r_f1, r_f2]) rfl ⟨_, rfl, ?_, ?_⟩
  · refine oT_mk (x := (s, i, rows)) hs hi (l2 := w2.heap.size) (m2 := w9.heap.size) ?_ (by omega) (by simp [World.setCell])
    repeat (refine Own.setOut ?_ rfl (by simp only []; omega))
    exact ho
  · repeat (refine Below.setCell ?_ (by simp only []; omega) _)
    exact hb3

end Go.Proofs.YtpgfkjcekhifiaaGreatDoor

namespace Go.Proofs.YtpgfkjcekhifiaaGreatDoor

open Go.RowKit Go.Sort

set_option linter.unusedVariables false

set_option linter.unusedSimpArgs false

set_option synthInstance.maxSize 2000

set_option synthInstance.maxHeartbeats 400000

def idxFrom (name : ByteArray) (j : Nat) : List DT → Int
  | [] => -1
  | t :: r => if t.1 = name then (j : Int) else idxFrom name (j + 1) r

def look (db : DDb) (name : ByteArray) : Option DT := if validDb db then db.find? (fun t => decide (t.1 = name)) else none

theorem idxFrom_yes {name : ByteArray} {j : Nat} {xs : List DT} {t : DT} (h : xs[j]? = some t) (hn : t.1 = name) : idxFrom name j (xs.drop j) = (j : Int) := by
  rw [drop_at h, idxFrom, if_pos hn]

theorem idxFrom_no {name : ByteArray} {j : Nat} {xs : List DT} {t : DT} (h : xs[j]? = some t) (hn : t.1 ≠ name) : idxFrom name j (xs.drop j) = idxFrom name (j + 1) (xs.drop (j + 1)) := by
  rw [drop_at h, idxFrom, if_neg hn]

theorem idxFrom_end {name : ByteArray} {j : Nat} {xs : List DT} (h : xs.length ≤ j) : idxFrom name j (xs.drop j) = -1 := by
  rw [List.drop_eq_nil_of_le h]; rfl

theorem idx_find {name : ByteArray} : ∀ {xs : List DT} {j : Nat}, (idxFrom name j xs = -1 ∧ xs.find? (fun t => decide (t.1 = name)) = none) ∨ ∃ k t, idxFrom name j xs = ((j + k : Nat) : Int) ∧ xs[k]? = some t ∧ xs.find? (fun t => decide (t.1 = name)) = some t
  | [], j => .inl ⟨rfl, rfl⟩
  | t :: r, j => by
    by_cases h : t.1 = name
    · exact .inr ⟨0, t, by simp [idxFrom, h], rfl, by simp [h]⟩
    · rcases @idx_find name r (j + 1) with ⟨h1, h2⟩ | ⟨k, u, h1, h2, h3⟩
      · exact .inl ⟨by rw [idxFrom, if_neg h]; exact h1, by simp [h, h2]⟩
      · exact .inr ⟨k + 1, u, by rw [idxFrom, if_neg h, h1]; omega, by simpa using h2, by simp [h, h3]⟩

theorem dbFrom_mem : ∀ {xs : List DT} {p : Option ByteArray}, dbFrom p xs = true → ∀ t ∈ xs, validT t = true
  | [], _, _, t, ht => by cases ht
  | x :: r, p, h, t, ht => by
    simp only [dbFrom, Bool.and_eq_true] at h
    rcases List.mem_cons.1 ht with rfl | ht
    · exact h.1
    · exact dbFrom_mem h.2.2 t ht

theorem rowsB_mem {n : Int} {rows : List (List Int)} (h : rowsB n rows = true) : ∀ r ∈ rows, (r.length : Int) = n ∧ ∀ v ∈ r, 0 ≤ v ∧ v ≤ 9 := by
  intro r hr
  have h1 := (List.all_eq_true.1 h) r hr
  simp only [rowB, Bool.and_eq_true, decide_eq_true_eq, List.all_eq_true, betw] at h1
  exact ⟨h1.2, fun v hv => h1.1 v hv⟩

structure TOk (t : DT) : Prop where
  name : nameB t.1 = true
  ar : 1 ≤ t.2.1 ∧ t.2.1 ≤ 3
  len : t.2.2.length ≤ 8
  row : ∀ r ∈ t.2.2, (r.length : Int) = t.2.1 ∧ ∀ v ∈ r, 0 ≤ v ∧ v ≤ 9
  asc : ascB t.2.2 = true

theorem TOk.of {t : DT} (h : validT t = true) : TOk t := by
  simp only [validT, Bool.and_eq_true, decide_eq_true_eq, betw] at h
  exact ⟨h.1, h.2.1, h.2.2.1, rowsB_mem h.2.2.2.1, h.2.2.2.2⟩

theorem sumBy_bound {α : Type} {f : α → Nat} {B : Nat} : ∀ {xs : List α}, (∀ x ∈ xs, f x ≤ B) → sumBy f xs ≤ xs.length * B
  | [], _ => by simp [sumBy]
  | x :: t, h => by
    have h1 := h x (by simp)
    have h2 := sumBy_bound (fun y hy => h y (List.mem_cons_of_mem x hy))
    simp only [sumBy, List.map_cons, List.sum_cons, List.length_cons, Nat.add_mul, Nat.one_mul] at h2 ⊢
    omega

theorem TOk.bulk {t : DT} (h : TOk t) : bulk_T t ≤ 100 := by
  have h1 : t.1.size = 1 := by have := h.name; simp only [nameB, Bool.and_eq_true, decide_eq_true_eq] at this; exact this.1
  have h2 := h.ar
  have h3 := h.len
  have h4 : sumBy bulk_I t.2.2 ≤ t.2.2.length * 3 := sumBy_bound (fun r hr => by have := (h.row r hr).1; unfold bulk_I; omega)
  have h5 := Nat.mul_le_mul_right 3 h3
  unfold bulk_T bulk_II
  omega

theorem look_ok {db : DDb} {name : ByteArray} {t : DT} (h : look db name = some t) : TOk t := by
  unfold look at h
  split at h
  · rename_i hv
    simp only [validDb, Bool.and_eq_true] at hv
    exact TOk.of (dbFrom_mem hv.1 t (List.mem_of_find?_eq_some h))
  · cases h

set_option maxHeartbeats 400000 in
theorem lookFn_any (cs : List Value) (t : DT) (name : ByteArray) (p : Addr) (w : World) (h : rT.rep w cs t) (hp : w.cell? p = some (.string name)) (hps : p.spot = none) :
    Calls Tryz.prog 71 #[.agg cs.toArray, .pointer (some p)] w fun e w' => e = .returned (.bool (decide (t.1 = name))) ∧ Below w.heap.size w w' := by
  obtain ⟨ub, un, uc, rfl, hs, hi, g1⟩ := rT_open h
  obtain ⟨pb, po, ps⟩ := p
  simp only at hps
  subst hps
  have hlt : pb < w.heap.size := cell_lt hp
  clear h g1
  have hb0 : Below w.heap.size w w := Below.refl _ _
  have c0 : w.cell? ⟨pb, po, none⟩ = some (.string name) := hp
  clear hp
  go_enter Tryz.func71, Tryz.ntmps71
  obtain ⟨w1, hw1⟩ : ∃ W, W = w.alloc (.cells #[.string t.1, .int .i64 t.2.1, .slice ub un uc] 41) := ⟨_, rfl⟩
  have z1 : Below w.heap.size w w1 := by rw [hw1]; exact (Below.refl _ _).alloc (Nat.le_refl _) _
  have s1 : w1.heap.size = w.heap.size + 1 := by rw [hw1]; simp
  have hb1 := on hb0 z1
  have old1_c0 := c0
  replace c0 := bxc z1 c0
  have b_0 : w1.cell? ⟨w.heap.size, 0, none⟩ = some (.string t.1) := by rw [hw1]; exact box_cell (Below.refl _ _) rfl
  have b_1 : w1.cell? ⟨w.heap.size, 1, none⟩ = some (.int .i64 t.2.1) := by rw [hw1]; exact box_cell (Below.refl _ _) rfl
  have b_2 : w1.cell? ⟨w.heap.size, 2, none⟩ = some (.slice ub un uc) := by rw [hw1]; exact box_cell (Below.refl _ _) rfl
  have raw1_c0 := c0
  have raw1_b_0 := b_0
  have raw1_b_1 := b_1
  have raw1_b_2 := b_2
  rw [hw1] at raw1_c0 raw1_b_0 raw1_b_1 raw1_b_2
  by_cases e : t.1 = name
  · have HE := Lib.hid (show (t.1.toList == name.toList) = true by rw [e]; simp)
    have HD := Lib.hid (decide_eq_true e)
    clear e
    have hq := HE.out
    go_wp2_with fail
    go_ret
    exact ⟨ret_bool HD.out.symm, by first | exact hb1 | (rw [hw1] at hb1; exact hb1)⟩
  · have hq := bytes_ne e
    have HD := Lib.hid (decide_eq_false e)
    clear e
    go_wp2_with fail
    go_ret
    exact ⟨ret_bool HD.out.symm, by first | exact hb1 | (rw [hw1] at hb1; exact hb1)⟩

end Go.Proofs.YtpgfkjcekhifiaaGreatDoor

namespace Go.Proofs.YtpgfkjcekhifiaaGreatDoor

open Go.RowKit

set_option linter.unusedVariables false

set_option linter.unusedSimpArgs false

def coverFrom (l : List Int) (n : Nat) : Nat → Nat → Bool
  | 0, _ => true
  | k + 1, v => has l (v : Int) && coverFrom l n k (v + 1)

def coverB (l : List Int) (n : Nat) : Bool := coverFrom l n n 0

theorem cover_at {l : List Int} {n v : Nat} (h : v < n) : coverFrom l n (n - v) v = (has l (v : Int) && coverFrom l n (n - (v + 1)) (v + 1)) := by
  rw [show n - v = (n - (v + 1)) + 1 by omega]; rfl

theorem cover_end {l : List Int} {n v : Nat} (h : n ≤ v) : coverFrom l n (n - v) v = true := by
  rw [show n - v = 0 by omega]; rfl

def isKey (ds : List DDp) (t : DT) (cs : List Int) : Bool := colsT t cs && coverB (closure ds t.1 cs) t.2.1.toNat

def keyM (ds : List DDp) (t : DT) (m : Nat) : Bool := isKey ds t (bitsTo m 3)

def minTo (key : Nat → Bool) : Nat → List Nat
  | 0 => []
  | s + 1 => if (minTo key s).all (fun k => !decide (k &&& s = k)) && key s then minTo key s ++ [s] else minTo key s

theorem minTo_yes {key : Nat → Bool} {s : Nat} (h : (minTo key s).all (fun k => !decide (k &&& s = k)) = true) (h' : key s = true) : minTo key (s + 1) = minTo key s ++ [s] := by
  rw [minTo, h, h']; rfl

theorem minTo_no1 {key : Nat → Bool} {s : Nat} (h : (minTo key s).all (fun k => !decide (k &&& s = k)) = false) : minTo key (s + 1) = minTo key s := by
  rw [minTo, h]; rfl

theorem minTo_no2 {key : Nat → Bool} {s : Nat} (h : key s = false) : minTo key (s + 1) = minTo key s := by
  rw [minTo, h, Bool.and_false]; rfl

theorem minTo_lt {key : Nat → Bool} : ∀ {s x : Nat}, x ∈ minTo key s → x < s
  | 0, x, h => by cases h
  | s + 1, x, h => by
    rw [minTo] at h
    split at h
    · rcases List.mem_append.1 h with h | h
      · have := minTo_lt h; omega
      · simp at h; omega
    · have := minTo_lt h; omega

theorem minTo_len {key : Nat → Bool} : ∀ s, (minTo key s).length ≤ s
  | 0 => by simp [minTo]
  | s + 1 => by
    have := minTo_len (key := key) s
    rw [minTo]
    split
    · simp; omega
    · omega

theorem minTo_cover {key : Nat → Bool} : ∀ {s x : Nat}, x < s → key x = true → ∃ k ∈ minTo key s, k &&& x = k
  | 0, x, h, _ => by omega
  | s + 1, x, h, hk => by
    have keep : ∀ k, k ∈ minTo key s → k ∈ minTo key (s + 1) := fun k hk => by
      rw [minTo]; split
      · exact List.mem_append_left _ hk
      · exact hk
    by_cases e : x = s
    · subst e
      by_cases ha : (minTo key x).all (fun k => !decide (k &&& x = k)) = true
      · rw [minTo_yes ha hk]
        exact ⟨x, by simp, Nat.and_self x⟩
      · rw [Bool.not_eq_true, List.all_eq_false] at ha
        obtain ⟨k, h1, h2⟩ := ha
        exact ⟨k, keep k h1, by simpa using h2⟩
    · obtain ⟨k, h1, h2⟩ := minTo_cover (s := s) (by omega) hk
      exact ⟨k, keep k h1, h2⟩

theorem less_sub : ∀ s : Fin 8, ∀ k : Fin 3, bitAt s.val k.val = true → 2 ^ k.val ≤ s.val ∧ (s.val - 2 ^ k.val) &&& s.val = s.val - 2 ^ k.val := by decide

def partsFrom (key : Nat → Bool) (s n : Nat) : Nat → Nat → Bool
  | 0, _ => true
  | f + 1, k => (!bitAt s k || !key (s - 2 ^ k)) && partsFrom key s n f (k + 1)

theorem parts_at {key : Nat → Bool} {s n k : Nat} (h : k < n) : partsFrom key s n (n - k) k = ((!bitAt s k || !key (s - 2 ^ k)) && partsFrom key s n (n - (k + 1)) (k + 1)) := by
  rw [show n - k = (n - (k + 1)) + 1 by omega]; rfl

theorem parts_end {key : Nat → Bool} {s n k : Nat} (h : n ≤ k) : partsFrom key s n (n - k) k = true := by
  rw [show n - k = 0 by omega]; rfl

theorem parts_yes {key : Nat → Bool} {s n : Nat} (hs : s < 8) (hn : n ≤ 3) (h : (minTo key s).all (fun k => !decide (k &&& s = k)) = true) : ∀ f k, k + f ≤ n → partsFrom key s n f k = true
  | 0, k, _ => rfl
  | f + 1, k, hk => by
    rw [partsFrom, parts_yes hs hn h f (k + 1) (by omega), Bool.and_true]
    by_cases hb : bitAt s k = true
    · rw [hb, Bool.not_true, Bool.false_or]
      cases hkey : key (s - 2 ^ k) with
      | false => rfl
      | true =>
        obtain ⟨h1, h2⟩ := less_sub ⟨s, hs⟩ ⟨k, by omega⟩ hb
        simp only at h1 h2
        obtain ⟨x, hx, hxs⟩ := minTo_cover (key := key) (s := s) (x := s - 2 ^ k) (by have := Nat.two_pow_pos k; omega) hkey
        have h3 := List.all_eq_true.1 h x hx
        have h4 : x &&& s = x := sub_trans hxs h2
        simp [h4] at h3
    · simp [hb]

def minKeys (ds : List DDp) (t : DT) : List (List Int) := if validT t then (minTo (keyM ds t) (2 ^ t.2.1.toNat)).map (fun m => bitsTo m 3) else []

end Go.Proofs.YtpgfkjcekhifiaaGreatDoor

namespace Go.Proofs.YtpgfkjcekhifiaaGreatDoor

open Go.RowKit Go.Sort

set_option linter.unusedVariables false

set_option linter.unusedSimpArgs false

set_option synthInstance.maxSize 2000

set_option synthInstance.maxHeartbeats 400000

set_option maxHeartbeats 1000000 in
theorem indexT_any (ub : Option Addr) (un uc : Nat) (x : List DT) (name : ByteArray) (p : Addr) (w : World) (h : rTl.rep w [.slice ub un uc] x) (hp : w.cell? p = some (.string name)) (hps : p.spot = none) :
    Calls Tryz.prog 70 #[.slice ub un uc, .func (.func 71) #[] #[.pointer (some p)]] w fun e w' => e = .returned (.int .i64 (idxFrom name 0 x)) ∧ Below w.heap.size w w' := by
  have t1 := rS_sl h
  have hl := t1.len
  have hn := t1.small
  have HV : Hid (idxFrom name 0 x = idxFrom name 0 (x.drop 0)) := rfl
  have HL := Lib.hid hl
  obtain ⟨pb, po, ps⟩ := p
  simp only at hps
  subst hps
  have hplt : pb < w.heap.size := cell_lt hp
  clear h
  have hb0 : Below w.heap.size w w := Below.refl _ _
  have c0 : w.cell? ⟨pb, po, none⟩ = some (.string name) := hp
  clear hp
  go_enter Tryz.func70, Tryz.ntmps70
  go_wp2_with fail
  go_loopw [8] (fun k wr => ∃ j : Nat, j ≤ un ∧ k = .int .i64 j ∧ Hid (idxFrom name 0 x = idxFrom name j (x.drop j)) ∧ Below w.heap.size w wr) (fun k _ => un - (intOf k).toNat)
  case atStart => exact ⟨0, Nat.zero_le _, rfl, HV.out, Below.refl _ _⟩
  case round =>
    obtain ⟨j, hj, rfl, hE, hdr⟩ := hrel
    obtain ⟨wo, rfl⟩ : ∃ W, W = wr := ⟨_, rfl⟩
    have hlc := hdr
    have s1 := hdr.size
    have hb1 := on hb0 hdr
    replace c0 := bxc hdr c0
    by_cases hlt : j < un
    · obtain ⟨b1, o1, cs, t, rfl, hx, hr, hc⟩ := t1.at hlt
      have hcall := fun W (hW : Below w.heap.size w W) hq => lookFn_any cs t name ⟨pb, po, none⟩ W (rT.mono hr hW) hq rfl
      by_cases hne : t.1 = name
      · have HE : Hid (idxFrom name 0 x = (j : Int)) := Lib.hid (hE.out.trans (idxFrom_yes hx.out hne))
        have hd : decide (t.1 = name) = true := decide_eq_true hne
        simp only [hd] at hcall
        have HC := Lib.hid hcall
        obtain ⟨s, i, rows⟩ := t
        obtain ⟨tb, tn, tc, rfl, hs, hi, g2⟩ := rT_open hr
        simp only at hs hi g2 HC
        have e_lt : b1 < w.heap.size := cell_lt (hc 0 _ rfl)
        have e_0 : wo.cell? ⟨b1, o1 + j * 3, none⟩ = some (.string s) := (hb1.cell (p := ⟨b1, o1 + j * 3, none⟩) e_lt).trans (by have h9 := hc 0 _ rfl; rw [← Nat.add_assoc] at h9; exact h9)
        have e_1 : wo.cell? ⟨b1, o1 + j * 3 + 1, none⟩ = some (.int .i64 i) := (hb1.cell (p := ⟨b1, o1 + j * 3 + 1, none⟩) e_lt).trans (by have h9 := hc 1 _ rfl; rw [← Nat.add_assoc] at h9; exact h9)
        have e_2 : wo.cell? ⟨b1, o1 + j * 3 + 2, none⟩ = some (.slice tb tn tc) := (hb1.cell (p := ⟨b1, o1 + j * 3 + 2, none⟩) e_lt).trans (by have h9 := hc 2 _ rfl; rw [← Nat.add_assoc] at h9; exact h9)
        clear hcall hd hne hE HV hx hr hc g2 hl t1 hs hi
        go_wp2_with (go_at_call 71; refine (HC.out _ hb1 c0).mono ?_; rintro e w8 ⟨rfl, z8⟩)
        have s2 := z8.size
        have hb2 := on hb1 z8
        replace c0 := bxc z8 c0
        replace hlc := on hlc z8
        replace e_0 := bxc z8 e_0
        replace e_1 := bxc z8 e_1
        replace e_2 := bxc z8 e_2
        go_wp2_with fail
        go_ret
        exact ⟨by rw [HE.out]; rfl, hb2⟩
      · have HE : Hid (idxFrom name 0 x = idxFrom name (j + 1) (x.drop (j + 1))) := Lib.hid (hE.out.trans (idxFrom_no hx.out hne))
        have hd : decide (t.1 = name) = false := decide_eq_false hne
        simp only [hd] at hcall
        have HC := Lib.hid hcall
        obtain ⟨s, i, rows⟩ := t
        obtain ⟨tb, tn, tc, rfl, hs, hi, g2⟩ := rT_open hr
        simp only at hs hi g2 HC
        have e_lt : b1 < w.heap.size := cell_lt (hc 0 _ rfl)
        have e_0 : wo.cell? ⟨b1, o1 + j * 3, none⟩ = some (.string s) := (hb1.cell (p := ⟨b1, o1 + j * 3, none⟩) e_lt).trans (by have h9 := hc 0 _ rfl; rw [← Nat.add_assoc] at h9; exact h9)
        have e_1 : wo.cell? ⟨b1, o1 + j * 3 + 1, none⟩ = some (.int .i64 i) := (hb1.cell (p := ⟨b1, o1 + j * 3 + 1, none⟩) e_lt).trans (by have h9 := hc 1 _ rfl; rw [← Nat.add_assoc] at h9; exact h9)
        have e_2 : wo.cell? ⟨b1, o1 + j * 3 + 2, none⟩ = some (.slice tb tn tc) := (hb1.cell (p := ⟨b1, o1 + j * 3 + 2, none⟩) e_lt).trans (by have h9 := hc 2 _ rfl; rw [← Nat.add_assoc] at h9; exact h9)
        clear hcall hd hne hE HV hx hr hc g2 hl t1 hs hi
        go_wp2_with (go_at_call 71; refine (HC.out _ hb1 c0).mono ?_; rintro e w8 ⟨rfl, z8⟩)
        have s3 := z8.size
        have hb3 := on hb1 z8
        replace c0 := bxc z8 c0
        replace hlc := on hlc z8
        replace e_0 := bxc z8 e_0
        replace e_1 := bxc z8 e_1
        replace e_2 := bxc z8 e_2
        go_wp2_with fail
        go_roundw
        case rel => exact ⟨j + 1, by omega, by go_num, HE.out, hlc⟩
        case measure => simp [intOf]; omega
    · have HE : Hid (idxFrom name 0 x = -1) := Lib.hid (hE.out.trans (idxFrom_end (by have := HL.out; omega)))
      clear t1 hl hE HV
      go_wp2_with fail
      go_ret
      exact ⟨by rw [HE.out]; rfl, hb1⟩

theorem look_some_idx {db : DDb} {name : ByteArray} {t : DT} (h : look db name = some t) : ∃ k : Nat, idxFrom name 0 db = (k : Int) ∧ db[k]? = some t ∧ validDb db = true := by
  unfold look at h
  split at h
  · rename_i hv
    rcases @idx_find name db 0 with ⟨_, h2⟩ | ⟨k, u, h1, h2, h3⟩
    · rw [h2] at h; cases h
    · rw [h3] at h
      obtain rfl := Option.some.inj h
      exact ⟨k, by simpa using h1, h2, hv⟩
  · cases h

theorem look_none_idx {db : DDb} {name : ByteArray} (h : look db name = none) : idxFrom name 0 db = -1 ∨ ∃ k : Nat, idxFrom name 0 db = (k : Int) ∧ validDb db = false := by
  unfold look at h
  rcases @idx_find name db 0 with ⟨h1, _⟩ | ⟨k, u, h1, h2, h3⟩
  · exact .inl h1
  · split at h
    · rw [h3] at h; cases h
    · rename_i hv
      exact .inr ⟨k, by simpa using h1, by simpa using hv⟩

abbrev noT : Array Value := #[.string ⟨#[]⟩, .int .i64 0, .slice none 0 0]

set_option maxHeartbeats 1000000 in
theorem lookI_none (cs : List Value) (db : DDb) (name : ByteArray) (w : World) (h : rDb.rep w cs db) (hL : look db name = none) :
    Calls Tryz.prog 28 #[.agg cs.toArray, .string name] w fun e w' => e = .returned (.tuple #[.agg noT, .bool false]) ∧ Below w.heap.size w w' := by
  obtain ⟨ub, un, uc, rfl, g1⟩ := rDb_open h
  have hcall := fun W p (hW : Below w.heap.size w W) hq hs => indexT_any ub un uc db name p W (rTl.mono g1 hW) hq hs
  have hval := fun W (hW : Below w.heap.size w W) => validDb_impl [.slice ub un uc] db W (rDb.mono h hW)
  clear h g1
  rcases look_none_idx hL with HI | ⟨k, HI, hv⟩
  · simp only [HI] at hcall
    have HC := Lib.hid hcall
    clear hcall hval HI hL
    have hb0 : Below w.heap.size w w := Below.refl _ _
    go_enter Tryz.func28, Tryz.ntmps28
    obtain ⟨w1, hw1⟩ : ∃ W, W = w.alloc (.cells #[.slice ub un uc] 26) := ⟨_, rfl⟩
    have z1 : Below w.heap.size w w1 := by rw [hw1]; exact (Below.refl _ _).alloc (Nat.le_refl _) _
    have s1 : w1.heap.size = w.heap.size + 1 := by rw [hw1]; simp
    have hb1 := on hb0 z1
    have b_0 : w1.cell? ⟨w.heap.size, 0, none⟩ = some (.slice ub un uc) := by rw [hw1]; exact box_cell (Below.refl _ _) rfl
    have b_f0 : w1.frozen? ⟨w.heap.size, 0, none⟩ = false := by rw [hw1]; exact box_frozen (Below.refl _ _)
    have raw1_b_0 := b_0
    rw [hw1] at raw1_b_0
    obtain ⟨w2, hw2⟩ : ∃ W, W = w1.alloc (.cells #[.string name] 9) := ⟨_, rfl⟩
    have z2 : Below w1.heap.size w1 w2 := by rw [hw2]; exact (Below.refl _ _).alloc (Nat.le_refl _) _
    have s2 : w2.heap.size = w1.heap.size + 1 := by rw [hw2]; simp
    have hb2 := on hb1 z2
    replace b_0 := bxc z2 b_0
    replace b_f0 := bxf z2 b_f0
    have e2 : w1.heap.size = w.heap.size + 1 := by omega
    have p_0 : w2.cell? ⟨w1.heap.size, 0, none⟩ = some (.string name) := by rw [hw2]; exact box_cell (Below.refl _ _) rfl
    rw [e2] at p_0
    have p_f0 : w2.frozen? ⟨w1.heap.size, 0, none⟩ = false := by rw [hw2]; exact box_frozen (Below.refl _ _)
    rw [e2] at p_f0
    have raw2_b_0 := b_0
    have raw2_p_0 := p_0
    rw [hw2, hw1] at raw2_b_0 raw2_p_0
    obtain ⟨w3, hw3⟩ : ∃ W, W = w2.alloc (.cells #[.string ⟨#[]⟩, .int .i64 0, .slice none 0 0] 41) := ⟨_, rfl⟩
    have z3 : Below w2.heap.size w2 w3 := by rw [hw3]; exact (Below.refl _ _).alloc (Nat.le_refl _) _
    have s3 : w3.heap.size = w2.heap.size + 1 := by rw [hw3]; simp
    have hb3 := on hb2 z3
    replace b_0 := bxc z3 b_0
    replace b_f0 := bxf z3 b_f0
    replace p_0 := bxc z3 p_0
    replace p_f0 := bxf z3 p_f0
    have e3 : w2.heap.size = w.heap.size + 1 + 1 := by omega
    have r_0 : w3.cell? ⟨w2.heap.size, 0, none⟩ = some (.string ⟨#[]⟩) := by rw [hw3]; exact box_cell (Below.refl _ _) rfl
    have r_1 : w3.cell? ⟨w2.heap.size, 1, none⟩ = some (.int .i64 0) := by rw [hw3]; exact box_cell (Below.refl _ _) rfl
    have r_2 : w3.cell? ⟨w2.heap.size, 2, none⟩ = some (.slice none 0 0) := by rw [hw3]; exact box_cell (Below.refl _ _) rfl
    rw [e3] at r_0 r_1 r_2
    have r_f0 : w3.frozen? ⟨w2.heap.size, 0, none⟩ = false := by rw [hw3]; exact box_frozen (Below.refl _ _)
    have r_f1 : w3.frozen? ⟨w2.heap.size, 1, none⟩ = false := by rw [hw3]; exact box_frozen (Below.refl _ _)
    have r_f2 : w3.frozen? ⟨w2.heap.size, 2, none⟩ = false := by rw [hw3]; exact box_frozen (Below.refl _ _)
    rw [e3] at r_f0 r_f1 r_f2
    have raw3_b_0 := b_0
    have raw3_p_0 := p_0
    have raw3_r_0 := r_0
    have raw3_r_1 := r_1
    have raw3_r_2 := r_2
    rw [hw3, hw2, hw1] at raw3_b_0 raw3_p_0 raw3_r_0 raw3_r_1 raw3_r_2
    go_wp2_with fail
    rw [← hw1]
    rw [← hw2]
    rw [← hw3]
    clear hw3 hw2 hw1
    clear raw1_b_0 raw2_b_0 raw2_p_0 raw3_b_0 raw3_p_0 raw3_r_0 raw3_r_1 raw3_r_2
    refine (HC.out _ _ hb3 p_0 rfl).mono ?_
    rintro e w9 ⟨rfl, z9⟩
    have s4 := z9.size
    have hb4 := on hb3 z9
    replace b_0 := bxc z9 b_0
    replace b_f0 := bxf z9 b_f0
    replace p_0 := bxc z9 p_0
    replace p_f0 := bxf z9 p_f0
    replace r_0 := bxc z9 r_0
    replace r_1 := bxc z9 r_1
    replace r_2 := bxc z9 r_2
    replace r_f0 := bxf z9 r_f0
    replace r_f1 := bxf z9 r_f1
    replace r_f2 := bxf z9 r_f2
    go_wp2_with fail
    refine bodyPost_ret (v := .tuple #[.agg noT, .bool false]) (by simp [results, Tryz.results28, go_sem, noT, r_0, r_1, r_2, r_f0, r_f1, r_f2]) rfl ⟨rfl, ?_⟩
    repeat (refine Below.setCell ?_ (by simp only []; omega) _)
    exact hb4
  · simp only [HI] at hcall
    simp only [hv] at hval
    have HC := Lib.hid hcall
    have HV := Lib.hid hval
    clear hcall hval HI hL hv
    have hb0 : Below w.heap.size w w := Below.refl _ _
    go_enter Tryz.func28, Tryz.ntmps28
    obtain ⟨w5, hw5⟩ : ∃ W, W = w.alloc (.cells #[.slice ub un uc] 26) := ⟨_, rfl⟩
    have z5 : Below w.heap.size w w5 := by rw [hw5]; exact (Below.refl _ _).alloc (Nat.le_refl _) _
    have s5 : w5.heap.size = w.heap.size + 1 := by rw [hw5]; simp
    have hb5 := on hb0 z5
    have b_0 : w5.cell? ⟨w.heap.size, 0, none⟩ = some (.slice ub un uc) := by rw [hw5]; exact box_cell (Below.refl _ _) rfl
    have b_f0 : w5.frozen? ⟨w.heap.size, 0, none⟩ = false := by rw [hw5]; exact box_frozen (Below.refl _ _)
    have raw5_b_0 := b_0
    rw [hw5] at raw5_b_0
    obtain ⟨w6, hw6⟩ : ∃ W, W = w5.alloc (.cells #[.string name] 9) := ⟨_, rfl⟩
    have z6 : Below w5.heap.size w5 w6 := by rw [hw6]; exact (Below.refl _ _).alloc (Nat.le_refl _) _
    have s6 : w6.heap.size = w5.heap.size + 1 := by rw [hw6]; simp
    have hb6 := on hb5 z6
    replace b_0 := bxc z6 b_0
    replace b_f0 := bxf z6 b_f0
    have e6 : w5.heap.size = w.heap.size + 1 := by omega
    have p_0 : w6.cell? ⟨w5.heap.size, 0, none⟩ = some (.string name) := by rw [hw6]; exact box_cell (Below.refl _ _) rfl
    rw [e6] at p_0
    have p_f0 : w6.frozen? ⟨w5.heap.size, 0, none⟩ = false := by rw [hw6]; exact box_frozen (Below.refl _ _)
    rw [e6] at p_f0
    have raw6_b_0 := b_0
    have raw6_p_0 := p_0
    rw [hw6, hw5] at raw6_b_0 raw6_p_0
    obtain ⟨w7, hw7⟩ : ∃ W, W = w6.alloc (.cells #[.string ⟨#[]⟩, .int .i64 0, .slice none 0 0] 41) := ⟨_, rfl⟩
    have z7 : Below w6.heap.size w6 w7 := by rw [hw7]; exact (Below.refl _ _).alloc (Nat.le_refl _) _
    have s7 : w7.heap.size = w6.heap.size + 1 := by rw [hw7]; simp
    have hb7 := on hb6 z7
    replace b_0 := bxc z7 b_0
    replace b_f0 := bxf z7 b_f0
    replace p_0 := bxc z7 p_0
    replace p_f0 := bxf z7 p_f0
    have e7 : w6.heap.size = w.heap.size + 1 + 1 := by omega
    have r_0 : w7.cell? ⟨w6.heap.size, 0, none⟩ = some (.string ⟨#[]⟩) := by rw [hw7]; exact box_cell (Below.refl _ _) rfl
    have r_1 : w7.cell? ⟨w6.heap.size, 1, none⟩ = some (.int .i64 0) := by rw [hw7]; exact box_cell (Below.refl _ _) rfl
    have r_2 : w7.cell? ⟨w6.heap.size, 2, none⟩ = some (.slice none 0 0) := by rw [hw7]; exact box_cell (Below.refl _ _) rfl
    rw [e7] at r_0 r_1 r_2
    have r_f0 : w7.frozen? ⟨w6.heap.size, 0, none⟩ = false := by rw [hw7]; exact box_frozen (Below.refl _ _)
    have r_f1 : w7.frozen? ⟨w6.heap.size, 1, none⟩ = false := by rw [hw7]; exact box_frozen (Below.refl _ _)
    have r_f2 : w7.frozen? ⟨w6.heap.size, 2, none⟩ = false := by rw [hw7]; exact box_frozen (Below.refl _ _)
    rw [e7] at r_f0 r_f1 r_f2
    have raw7_b_0 := b_0
    have raw7_p_0 := p_0
    have raw7_r_0 := r_0
    have raw7_r_1 := r_1
    have raw7_r_2 := r_2
    rw [hw7, hw6, hw5] at raw7_b_0 raw7_p_0 raw7_r_0 raw7_r_1 raw7_r_2
    go_wp2_with fail
    rw [← hw5]
    rw [← hw6]
    rw [← hw7]
    clear hw7 hw6 hw5
    clear raw5_b_0 raw6_b_0 raw6_p_0 raw7_b_0 raw7_p_0 raw7_r_0 raw7_r_1 raw7_r_2
    refine (HC.out _ _ hb7 p_0 rfl).mono ?_
    rintro e w9 ⟨rfl, z9⟩
    have s8 := z9.size
    have hb8 := on hb7 z9
    replace b_0 := bxc z9 b_0
    replace b_f0 := bxf z9 b_f0
    replace p_0 := bxc z9 p_0
    replace p_f0 := bxf z9 p_f0
    replace r_0 := bxc z9 r_0
    replace r_1 := bxc z9 r_1
    replace r_2 := bxc z9 r_2
    replace r_f0 := bxf z9 r_f0
    replace r_f1 := bxf z9 r_f1
    replace r_f2 := bxf z9 r_f2
    go_wp2_with fail
    refine (HV.out _ hb8).mono ?_
    rintro e w10 ⟨rfl, z10⟩
    have s9 := z10.size
    have hb9 := on hb8 z10
    replace b_0 := bxc z10 b_0
    replace b_f0 := bxf z10 b_f0
    replace p_0 := bxc z10 p_0
    replace p_f0 := bxf z10 p_f0
    replace r_0 := bxc z10 r_0
    replace r_1 := bxc z10 r_1
    replace r_2 := bxc z10 r_2
    replace r_f0 := bxf z10 r_f0
    replace r_f1 := bxf z10 r_f1
    replace r_f2 := bxf z10 r_f2
    go_wp2_with fail
    refine bodyPost_ret (v := .tuple #[.agg noT, .bool false]) (by simp [results, Tryz.results28, go_sem, noT, r_0, r_1, r_2, r_f0, r_f1, r_f2]) rfl ⟨rfl, ?_⟩
    repeat (refine Below.setCell ?_ (by simp only []; omega) _)
    exact hb9

set_option maxHeartbeats 1000000 in
theorem lookI_some (cs : List Value) (db : DDb) (name : ByteArray) (t : DT) (w : World) (h : rDb.rep w cs db) (hL : look db name = some t) :
    Calls Tryz.prog 28 #[.agg cs.toArray, .string name] w fun e w' => ∃ ds, e = .returned (.tuple #[.agg ds.toArray, .bool true]) ∧ Own oT w.heap.size w'.heap.size w' ds t ∧ Below w.heap.size w w' := by
  obtain ⟨ub, un, uc, rfl, g1⟩ := rDb_open h
  have hcall := fun W p (hW : Below w.heap.size w W) hq hs => indexT_any ub un uc db name p W (rTl.mono g1 hW) hq hs
  have hval := fun W (hW : Below w.heap.size w W) => validDb_impl [.slice ub un uc] db W (rDb.mono h hW)
  have hbk := (look_ok hL).bulk
  obtain ⟨k, HI, hk, hv⟩ := look_some_idx hL
  have t1 := rS_sl g1
  have hl := t1.len
  have hn := t1.small
  have hlt : k < un := by rw [← hl]; exact (List.getElem?_eq_some_iff.1 hk).1
  simp only [HI] at hcall
  simp only [hv] at hval
  obtain ⟨b1, o1, cs, t', rfl, hx, hr, hc⟩ := t1.at hlt
  obtain rfl : t' = t := by have h9 := hx.out; rw [hk] at h9; exact (Option.some.inj h9).symm
  have hcp := fun W (hW : Below w.heap.size w W) => copyTable_any cs t' W (rT.mono hr hW) (by omega)
  have HC := Lib.hid hcall
  have HV := Lib.hid hval
  obtain ⟨s, i, rows⟩ := t'
  obtain ⟨tb, tn, tc, rfl, hs, hi, g2⟩ := rT_open hr
  simp only at hs hi g2 hcp
  have HP := Lib.hid hcp
  clear hcall hval HI hL hv hcp h g1 hbk hk hx hr g2 t1 hl
  have hb0 : Below w.heap.size w w := Below.refl _ _
  have e_lt : b1 < w.heap.size := cell_lt (hc 0 _ rfl)
  have e_0 : w.cell? ⟨b1, o1 + k * 3, none⟩ = some (.string s) := (hb0.cell (p := ⟨b1, o1 + k * 3, none⟩) e_lt).trans (by have h9 := hc 0 _ rfl; rw [← Nat.add_assoc] at h9; exact h9)
  have e_1 : w.cell? ⟨b1, o1 + k * 3 + 1, none⟩ = some (.int .i64 i) := (hb0.cell (p := ⟨b1, o1 + k * 3 + 1, none⟩) e_lt).trans (by have h9 := hc 1 _ rfl; rw [← Nat.add_assoc] at h9; exact h9)
  have e_2 : w.cell? ⟨b1, o1 + k * 3 + 2, none⟩ = some (.slice tb tn tc) := (hb0.cell (p := ⟨b1, o1 + k * 3 + 2, none⟩) e_lt).trans (by have h9 := hc 2 _ rfl; rw [← Nat.add_assoc] at h9; exact h9)
  clear hc
  go_enter Tryz.func28, Tryz.ntmps28
  obtain ⟨w1, hw1⟩ : ∃ W, W = w.alloc (.cells #[.slice (some ⟨b1, o1, none⟩) un uc] 26) := ⟨_, rfl⟩
  have z1 : Below w.heap.size w w1 := by rw [hw1]; exact (Below.refl _ _).alloc (Nat.le_refl _) _
  have s1 : w1.heap.size = w.heap.size + 1 := by rw [hw1]; simp
  have hb1 := on hb0 z1
  have old1_e_0 := e_0
  have old1_e_1 := e_1
  have old1_e_2 := e_2
  replace e_0 := bxc z1 e_0
  replace e_1 := bxc z1 e_1
  replace e_2 := bxc z1 e_2
  have b_0 : w1.cell? ⟨w.heap.size, 0, none⟩ = some (.slice (some ⟨b1, o1, none⟩) un uc) := by rw [hw1]; exact box_cell (Below.refl _ _) rfl
  have b_f0 : w1.frozen? ⟨w.heap.size, 0, none⟩ = false := by rw [hw1]; exact box_frozen (Below.refl _ _)
  have raw1_e_0 := e_0
  have raw1_e_1 := e_1
  have raw1_e_2 := e_2
  have raw1_b_0 := b_0
  rw [hw1] at raw1_e_0 raw1_e_1 raw1_e_2 raw1_b_0
  obtain ⟨w2, hw2⟩ : ∃ W, W = w1.alloc (.cells #[.string name] 9) := ⟨_, rfl⟩
  have z2 : Below w1.heap.size w1 w2 := by rw [hw2]; exact (Below.refl _ _).alloc (Nat.le_refl _) _
  have s2 : w2.heap.size = w1.heap.size + 1 := by rw [hw2]; simp
  have hb2 := on hb1 z2
  replace e_0 := bxc z2 e_0
  replace e_1 := bxc z2 e_1
  replace e_2 := bxc z2 e_2
  replace b_0 := bxc z2 b_0
  replace b_f0 := bxf z2 b_f0
  have e2 : w1.heap.size = w.heap.size + 1 := by omega
  have p_0 : w2.cell? ⟨w1.heap.size, 0, none⟩ = some (.string name) := by rw [hw2]; exact box_cell (Below.refl _ _) rfl
  rw [e2] at p_0
  have p_f0 : w2.frozen? ⟨w1.heap.size, 0, none⟩ = false := by rw [hw2]; exact box_frozen (Below.refl _ _)
  rw [e2] at p_f0
  have raw2_e_0 := e_0
  have raw2_e_1 := e_1
  have raw2_e_2 := e_2
  have raw2_b_0 := b_0
  have raw2_p_0 := p_0
  rw [hw2, hw1] at raw2_e_0 raw2_e_1 raw2_e_2 raw2_b_0 raw2_p_0
  obtain ⟨w3, hw3⟩ : ∃ W, W = w2.alloc (.cells #[.string ⟨#[]⟩, .int .i64 0, .slice none 0 0] 41) := ⟨_, rfl⟩
  have z3 : Below w2.heap.size w2 w3 := by rw [hw3]; exact (Below.refl _ _).alloc (Nat.le_refl _) _
  have s3 : w3.heap.size = w2.heap.size + 1 := by rw [hw3]; simp
  have hb3 := on hb2 z3
  replace e_0 := bxc z3 e_0
  replace e_1 := bxc z3 e_1
  replace e_2 := bxc z3 e_2
  replace b_0 := bxc z3 b_0
  replace b_f0 := bxf z3 b_f0
  replace p_0 := bxc z3 p_0
  replace p_f0 := bxf z3 p_f0
  have e3 : w2.heap.size = w.heap.size + 1 + 1 := by omega
  have r_0 : w3.cell? ⟨w2.heap.size, 0, none⟩ = some (.string ⟨#[]⟩) := by rw [hw3]; exact box_cell (Below.refl _ _) rfl
  have r_1 : w3.cell? ⟨w2.heap.size, 1, none⟩ = some (.int .i64 0) := by rw [hw3]; exact box_cell (Below.refl _ _) rfl
  have r_2 : w3.cell? ⟨w2.heap.size, 2, none⟩ = some (.slice none 0 0) := by rw [hw3]; exact box_cell (Below.refl _ _) rfl
  rw [e3] at r_0 r_1 r_2
  have r_f0 : w3.frozen? ⟨w2.heap.size, 0, none⟩ = false := by rw [hw3]; exact box_frozen (Below.refl _ _)
  have r_f1 : w3.frozen? ⟨w2.heap.size, 1, none⟩ = false := by rw [hw3]; exact box_frozen (Below.refl _ _)
  have r_f2 : w3.frozen? ⟨w2.heap.size, 2, none⟩ = false := by rw [hw3]; exact box_frozen (Below.refl _ _)
  rw [e3] at r_f0 r_f1 r_f2
  have raw3_e_0 := e_0
  have raw3_e_1 := e_1
  have raw3_e_2 := e_2
  have raw3_b_0 := b_0
  have raw3_p_0 := p_0
  have raw3_r_0 := r_0
  have raw3_r_1 := r_1
  have raw3_r_2 := r_2
  rw [hw3, hw2, hw1] at raw3_e_0 raw3_e_1 raw3_e_2 raw3_b_0 raw3_p_0 raw3_r_0 raw3_r_1 raw3_r_2
  go_wp2_with fail
  rw [← hw1]
  rw [← hw2]
  rw [← hw3]
  clear hw3 hw2 hw1
  clear old1_e_0 old1_e_1 old1_e_2 raw1_e_0 raw1_e_1 raw1_e_2 raw1_b_0 raw2_e_0 raw2_e_1 raw2_e_2 raw2_b_0 raw2_p_0 raw3_e_0 raw3_e_1 raw3_e_2 raw3_b_0 raw3_p_0 raw3_r_0 raw3_r_1 raw3_r_2
  refine (HC.out _ _ hb3 p_0 rfl).mono ?_
  rintro e w9 ⟨rfl, z9⟩
  have s4 := z9.size
  have hb4 := on hb3 z9
  replace e_0 := bxc z9 e_0
  replace e_1 := bxc z9 e_1
  replace e_2 := bxc z9 e_2
  replace b_0 := bxc z9 b_0
  replace b_f0 := bxf z9 b_f0
  replace p_0 := bxc z9 p_0
  replace p_f0 := bxf z9 p_f0
  replace r_0 := bxc z9 r_0
  replace r_1 := bxc z9 r_1
  replace r_2 := bxc z9 r_2
  replace r_f0 := bxf z9 r_f0
  replace r_f1 := bxf z9 r_f1
  replace r_f2 := bxf z9 r_f2
  go_wp2_with fail
  refine (HV.out _ hb4).mono ?_
  rintro e w10 ⟨rfl, z10⟩
  have s5 := z10.size
  have hb5 := on hb4 z10
  replace e_0 := bxc z10 e_0
  replace e_1 := bxc z10 e_1
  replace e_2 := bxc z10 e_2
  replace b_0 := bxc z10 b_0
  replace b_f0 := bxf z10 b_f0
  replace p_0 := bxc z10 p_0
  replace p_f0 := bxf z10 p_f0
  replace r_0 := bxc z10 r_0
  replace r_1 := bxc z10 r_1
  replace r_2 := bxc z10 r_2
  replace r_f0 := bxf z10 r_f0
  replace r_f1 := bxf z10 r_f1
  replace r_f2 := bxf z10 r_f2
  go_wp2_with fail
  refine (HP.out _ hb5).mono ?_
  rintro e w11 ⟨ds, rfl, ho, z11⟩
  obtain ⟨vb, vn, vc, rfl⟩ := oT_form ho
  simp only at ho
  have s6 := z11.size
  have hb6 := on hb5 z11
  replace e_0 := bxc z11 e_0
  replace e_1 := bxc z11 e_1
  replace e_2 := bxc z11 e_2
  replace b_0 := bxc z11 b_0
  replace b_f0 := bxf z11 b_f0
  replace p_0 := bxc z11 p_0
  replace p_f0 := bxf z11 p_f0
  replace r_0 := bxc z11 r_0
  replace r_1 := bxc z11 r_1
  replace r_2 := bxc z11 r_2
  replace r_f0 := bxf z11 r_f0
  replace r_f1 := bxf z11 r_f1
  replace r_f2 := bxf z11 r_f2
  go_wp2_with fail
  refine bodyPost_ret (v := .tuple #[.agg #[.string s, .int .i64 i, .slice vb vn vc], .bool true]) (by simp [results, Tryz.results28, go_sem, r_0, r_1, r_2, r_f0, r_f1, r_f2]) rfl ⟨_, rfl, ?_, ?_⟩
  · refine Own.mono (lo := w10.heap.size) (hi := w11.heap.size) ?_ (by omega) (by simp [World.setCell])
    repeat (refine Own.setOut ?_ rfl (by simp only []; omega))
    exact ho
  · repeat (refine Below.setCell ?_ (by simp only []; omega) _)
    exact hb6

end Go.Proofs.YtpgfkjcekhifiaaGreatDoor
