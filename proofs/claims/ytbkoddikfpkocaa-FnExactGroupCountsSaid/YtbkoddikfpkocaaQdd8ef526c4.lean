/- Texts joined for one claim: CopyS, GrpP, ValidDb, Look, Put, Sorted, GrpB, GrpI. -/
import Derived.Test.YtbkoddikfpkocaaQ33de078b8b
import Derived.Shelf.SlSortCmp.NoneTotal

/- Contracts: the copy of a table, of the reference. -/
namespace Go.Proofs.Ytbkoddikfpkocaa
open Go.RowKit Go.Sort
set_option linter.unusedVariables false
set_option linter.unusedSimpArgs false
set_option synthInstance.maxSize 2000
set_option synthInstance.maxHeartbeats 400000

/-- A builtin append at a step of a region that draws, by its run. -/
theorem step_app {ops : Array Oper} {o : Oper} {a : Act} {K : Act → World → Prop} {Q : Exit → Act → World → Prop} {E : Prop} {w w' : World} {s x : Operand} {t t' : TypeId} {vs vx v' : Value}
    {ty : TypeId} (hrun : (Builtin.append_ #[t, t'] ty #[vs, vx]).run Try.prog w = .ok v' w') (hty : o.type = ty) (hgd : o.guard = none)
    (ho : o.op = .call { callee := .builtin .append, args := #[s, x], argTypes := #[t, t'] }) (hs : a.eval s = vs) (hx : a.eval x = vx)
    (h : K (a.put o.dst v') w') :
    if Region.wanted o (yielded ops a.tmps) = true then Oper.wp Try.prog o a w K Q else E := by
  have hw : Region.wanted o (yielded ops a.tmps) = true := by simp [Region.wanted, hgd]
  rw [if_pos hw]
  unfold Oper.wp execOp
  simp only [ho, resolve, invoke, builtin, Sem.run_bind, Sem.run_pure, Result.andThen_ok, List.map_toArray, List.map_cons, List.map_nil, hs, hx, hty, hrun]
  exact h

theorem cell_ad {w : World} {o : Obj} {p : Addr} {v : Value} (h : w.cell? p = some v) : (w.alloc o).cell? p = some v :=
  (((Below.refl _ _).alloc (Nat.le_refl _) o).cell (p := p) (World.block_lt_of_cell? w p h)).trans h
theorem cell_add {w : World} {o : Obj} {p : Addr} {v : Value} (h : w.cell? p = some v) : (w.alloc o).drew.cell? p = some v :=
  (((Below.refl _ _).alloc (Nat.le_refl _) o).drew.cell (p := p) (World.block_lt_of_cell? w p h)).trans h
/-- What a cell holds. -/
def valAt (W : World) (p : Addr) : Value := (W.cell? p).getD undef
theorem valAt_eq {W : World} {p : Addr} {v : Value} (h : W.cell? p = some v) : valAt W p = v := by unfold valAt; rw [h]; rfl
theorem valAt_of {W : World} {p : Addr} {v : Value} (h : W.cell? p = some v) : W.cell? p = some (valAt W p) := by rw [valAt_eq h, h]
theorem valAt_set {W : World} {p q : Addr} {u v : Value} (h : W.cell? q = some v) : (W.setCell p u).cell? q = some (valAt (W.setCell p u) q) := by
  obtain ⟨v', h'⟩ := cell?_setCell_some (p := p) (x := u) h
  exact valAt_of h'
theorem cell_set {W : World} {p q : Addr} {u v : Value} (h : W.cell? q = some v) (hne : q.block ≠ p.block) : (W.setCell p u).cell? q = some v :=
  (World.cell?_of_block (a := q) (Below.heap_setCell _ _ _ _ hne)).trans h
/-- 'append([]int{}, xs...)', run. -/
theorem run_copyI (W W1 : World) (ty : TypeId) (n c : Nat) (ad : Option Addr) (xs : List Int) (hi : Ints W ad n xs) (hn : n ≤ 1000000000000) (hW1 : W1 = W.alloc (.cells #[] 3)) :
    ∃ v' w', (Builtin.append_ #[24, 24] ty #[.slice (some ⟨W.heap.size, 0, none⟩) 0 0, .slice ad n c]).run Try.prog W1 = .ok v' w' ∧ Own oI W.heap.size w'.heap.size w' [v'] xs ∧ Below W.heap.size W w' ∧ W.heap.size < w'.heap.size := by
  subst hW1
  obtain ⟨i, hi0, hz0, hz1, hz2⟩ := info_parts infoInt
  have hown := own_empty (Nat.le_refl W.heap.size)
  have hbl : Below W.heap.size W (W.alloc (.cells #[] 3)) := (Below.refl _ _).alloc (Nat.le_refl _) _
  replace hi := hi.below hbl
  cases ad with
  | none =>
    have hn0 : n = 0 := by
      rcases Nat.eq_zero_or_pos n with h0 | h0
      · exact h0
      · obtain ⟨b, off, hb, _⟩ := hi.cell 0 h0; simp at hb
    subst hn0
    have hx0 : xs = [] := List.eq_nil_of_length_eq_zero hi.len
    subst hx0
    have hr : (Builtin.append_ #[24, 24] ty #[.slice (some ⟨W.heap.size, 0, none⟩) 0 0, .slice none 0 c]).run Try.prog (W.alloc (.cells #[] 3)) = .ok (.slice (some ⟨W.heap.size, 0, none⟩) 0 0) (W.alloc (.cells #[] 3)) := run_append_room_src (P := Try.prog) (W.alloc (.cells #[] 3)) 24 24 ty 3 i Try.underlying24 hi0 W.heap.size 0 0 0 (.slice none 0 c) 0 [] (Src.ofNil _ Try.underlying24 c) (by omega) (by simp) (by simp)
    exact ⟨_, _, hr, hown.own, hbl, by simp⟩
  | some ad =>
    have hnews : ∀ j u, (xs.map (Value.int .i64))[j]? = some u → (W.alloc (.cells #[] 3)).cell? (ad.add j) = some u := by
      intro j u hu
      rw [List.getElem?_map] at hu
      have hj : j < n := by
        rw [← hi.len]
        rcases Nat.lt_or_ge j xs.length with h1 | h1
        · exact h1
        · rw [List.getElem?_eq_none h1] at hu; simp at hu
      obtain ⟨b, off, hb, hc⟩ := hi.cell j hj
      simp at hb
      subst hb
      rw [List.getD_eq_getElem?_getD] at hc
      rw [List.getElem?_eq_getElem (by rw [hi.len]; exact hj)] at hu hc
      simp at hu
      subst hu
      rw [Addr.add_lit]
      simpa using hc
    obtain ⟨v', w', hrun, h1, h2, _⟩ := run_append_own_at (P := Try.prog) (W.alloc (.cells #[] 3)) W.heap.size 24 ty 3 i (.int .i64 0) 1 8 Try.underlying24 hi0 hz0 hz1 hz2 rfl (by decide) _ 0 [] (by simpa using hown.row) ad n c (xs.map (Value.int .i64)) (by simp [hi.len]) hnews (by intro z hz; simp at hz; obtain ⟨y, _, rfl⟩ := hz; rfl) (by unfold maxLen; omega) (by omega) (by simp)
    refine ⟨v', w', hrun, (OwnInts.own ⟨hi.len, by simpa using h1, hi.rng⟩), hbl.grown h2 (by simp) (fun k hk => by simp [Value.ownBlock] at hk; omega), ?_⟩
    have := h2.size; simp at this; omega

set_option maxRecDepth 100000 in
set_option maxHeartbeats 2000000 in
theorem l4Copy_any (cs : List Value) (x : DT) (w : World) (h : rT.rep w cs x) (hn : bulk_T x ≤ 100000000) :
    Calls Try.prog 193 #[.agg cs.toArray] w fun e w' => ∃ ds, e = .returned (.agg ds.toArray) ∧ Own oT w.heap.size w'.heap.size w' ds x ∧ Below w.heap.size w w' := by
  obtain ⟨ub, un, uc, rfl, hs, hi, g1⟩ := rT_open h
  clear h
  obtain ⟨s, i, rows⟩ := x
  simp only at hs hi g1
  have hn2 : bulk_II rows ≤ 100000000 := by unfold bulk_T at hn; simp only at hn; omega
  clear hn
  have t0 := rS_sl g1
  have hl := t0.len
  have hn1 : un ≤ 100000000 := by unfold bulk_II at hn2; omega
  have hrows : ∀ (j : Nat) (r : List Int), rows[j]? = some r → r.length ≤ 100000000 := fun j r hr => by
    have h9 := sumBy_mem bulk_I hr; unfold bulk_II at hn2; unfold bulk_I at h9 hn2; omega
  have HR := Lib.hid hrows
  clear hrows hn2
  have hb0 : Below w.heap.size w w := Below.refl _ _
  go_enter Try.func193, Try.ntmps193
  obtain ⟨w1, hw1⟩ : ∃ W, W = w.alloc (.cells #[.string s, .int .i64 i, .slice ub un uc] 34) := ⟨_, rfl⟩
  have z1 : Below w.heap.size w w1 := by rw [hw1]; exact (Below.refl _ _).alloc (Nat.le_refl _) _
  have s1 : w1.heap.size = w.heap.size + 1 := by rw [hw1]; simp
  have hb1 := on hb0 z1
  have b_0 : w1.cell? ⟨w.heap.size, 0, none⟩ = some (.string s) := by rw [hw1]; exact box_cell (Below.refl _ _) rfl
  have b_1 : w1.cell? ⟨w.heap.size, 1, none⟩ = some (.int .i64 i) := by rw [hw1]; exact box_cell (Below.refl _ _) rfl
  have b_2 : w1.cell? ⟨w.heap.size, 2, none⟩ = some (.slice ub un uc) := by rw [hw1]; exact box_cell (Below.refl _ _) rfl
  have b_f0 : w1.frozen? ⟨w.heap.size, 0, none⟩ = false := by rw [hw1]; exact box_frozen (Below.refl _ _)
  have b_f1 : w1.frozen? ⟨w.heap.size, 1, none⟩ = false := by rw [hw1]; exact box_frozen (Below.refl _ _)
  have b_f2 : w1.frozen? ⟨w.heap.size, 2, none⟩ = false := by rw [hw1]; exact box_frozen (Below.refl _ _)
  have raw1_b_0 := b_0
  have raw1_b_1 := b_1
  have raw1_b_2 := b_2
  rw [hw1] at raw1_b_0 raw1_b_1 raw1_b_2
  obtain ⟨w2, hw2⟩ : ∃ W, W = w1.alloc (.cells #[.string ⟨#[]⟩, .int .i64 0, .slice none 0 0] 34) := ⟨_, rfl⟩
  have z2 : Below w1.heap.size w1 w2 := by rw [hw2]; exact (Below.refl _ _).alloc (Nat.le_refl _) _
  have s2 : w2.heap.size = w1.heap.size + 1 := by rw [hw2]; simp
  have hb2 := on hb1 z2
  replace b_0 := (z2.cell (p := ⟨w.heap.size, 0, none⟩) (by simp only []; omega)).trans b_0
  replace b_1 := (z2.cell (p := ⟨w.heap.size, 1, none⟩) (by simp only []; omega)).trans b_1
  replace b_2 := (z2.cell (p := ⟨w.heap.size, 2, none⟩) (by simp only []; omega)).trans b_2
  replace b_f0 := (z2.frozen (p := ⟨w.heap.size, 0, none⟩) (by simp only []; omega)).trans b_f0
  replace b_f1 := (z2.frozen (p := ⟨w.heap.size, 1, none⟩) (by simp only []; omega)).trans b_f1
  replace b_f2 := (z2.frozen (p := ⟨w.heap.size, 2, none⟩) (by simp only []; omega)).trans b_f2
  have e2 : w1.heap.size = w.heap.size + 1 := by omega
  have r_0 : w2.cell? ⟨w1.heap.size, 0, none⟩ = some (.string ⟨#[]⟩) := by rw [hw2]; exact box_cell (Below.refl _ _) rfl
  have r_1 : w2.cell? ⟨w1.heap.size, 1, none⟩ = some (.int .i64 0) := by rw [hw2]; exact box_cell (Below.refl _ _) rfl
  have r_2 : w2.cell? ⟨w1.heap.size, 2, none⟩ = some (.slice none 0 0) := by rw [hw2]; exact box_cell (Below.refl _ _) rfl
  rw [e2] at r_0 r_1 r_2
  have r_f0 : w2.frozen? ⟨w1.heap.size, 0, none⟩ = false := by rw [hw2]; exact box_frozen (Below.refl _ _)
  have r_f1 : w2.frozen? ⟨w1.heap.size, 1, none⟩ = false := by rw [hw2]; exact box_frozen (Below.refl _ _)
  have r_f2 : w2.frozen? ⟨w1.heap.size, 2, none⟩ = false := by rw [hw2]; exact box_frozen (Below.refl _ _)
  rw [e2] at r_f0 r_f1 r_f2
  have raw2_b_0 := b_0
  have raw2_b_1 := b_1
  have raw2_b_2 := b_2
  have raw2_r_0 := r_0
  have raw2_r_1 := r_1
  have raw2_r_2 := r_2
  rw [hw2, hw1] at raw2_b_0 raw2_b_1 raw2_b_2 raw2_r_0 raw2_r_1 raw2_r_2
  obtain ⟨w3, hw3⟩ : ∃ W, W = w2.alloc (.cells #[.string s, .int .i64 i, .slice none 0 0] 34) := ⟨_, rfl⟩
  have z3 : Below w2.heap.size w2 w3 := by rw [hw3]; exact (Below.refl _ _).alloc (Nat.le_refl _) _
  have s3 : w3.heap.size = w2.heap.size + 1 := by rw [hw3]; simp
  have hb3 := on hb2 z3
  replace b_0 := (z3.cell (p := ⟨w.heap.size, 0, none⟩) (by simp only []; omega)).trans b_0
  replace b_1 := (z3.cell (p := ⟨w.heap.size, 1, none⟩) (by simp only []; omega)).trans b_1
  replace b_2 := (z3.cell (p := ⟨w.heap.size, 2, none⟩) (by simp only []; omega)).trans b_2
  replace b_f0 := (z3.frozen (p := ⟨w.heap.size, 0, none⟩) (by simp only []; omega)).trans b_f0
  replace b_f1 := (z3.frozen (p := ⟨w.heap.size, 1, none⟩) (by simp only []; omega)).trans b_f1
  replace b_f2 := (z3.frozen (p := ⟨w.heap.size, 2, none⟩) (by simp only []; omega)).trans b_f2
  replace r_0 := (z3.cell (p := ⟨w.heap.size + 1, 0, none⟩) (by simp only []; omega)).trans r_0
  replace r_1 := (z3.cell (p := ⟨w.heap.size + 1, 1, none⟩) (by simp only []; omega)).trans r_1
  replace r_2 := (z3.cell (p := ⟨w.heap.size + 1, 2, none⟩) (by simp only []; omega)).trans r_2
  replace r_f0 := (z3.frozen (p := ⟨w.heap.size + 1, 0, none⟩) (by simp only []; omega)).trans r_f0
  replace r_f1 := (z3.frozen (p := ⟨w.heap.size + 1, 1, none⟩) (by simp only []; omega)).trans r_f1
  replace r_f2 := (z3.frozen (p := ⟨w.heap.size + 1, 2, none⟩) (by simp only []; omega)).trans r_f2
  have e3 : w2.heap.size = w.heap.size + 1 + 1 := by omega
  have x_0 : w3.cell? ⟨w2.heap.size, 0, none⟩ = some (.string s) := by rw [hw3]; exact box_cell (Below.refl _ _) rfl
  have x_1 : w3.cell? ⟨w2.heap.size, 1, none⟩ = some (.int .i64 i) := by rw [hw3]; exact box_cell (Below.refl _ _) rfl
  have x_2 : w3.cell? ⟨w2.heap.size, 2, none⟩ = some (.slice none 0 0) := by rw [hw3]; exact box_cell (Below.refl _ _) rfl
  rw [e3] at x_0 x_1 x_2
  have x_f0 : w3.frozen? ⟨w2.heap.size, 0, none⟩ = false := by rw [hw3]; exact box_frozen (Below.refl _ _)
  have x_f1 : w3.frozen? ⟨w2.heap.size, 1, none⟩ = false := by rw [hw3]; exact box_frozen (Below.refl _ _)
  have x_f2 : w3.frozen? ⟨w2.heap.size, 2, none⟩ = false := by rw [hw3]; exact box_frozen (Below.refl _ _)
  rw [e3] at x_f0 x_f1 x_f2
  have raw3_b_0 := b_0
  have raw3_b_1 := b_1
  have raw3_b_2 := b_2
  have raw3_r_0 := r_0
  have raw3_r_1 := r_1
  have raw3_r_2 := r_2
  have raw3_x_0 := x_0
  have raw3_x_1 := x_1
  have raw3_x_2 := x_2
  rw [hw3, hw2, hw1] at raw3_b_0 raw3_b_1 raw3_b_2 raw3_r_0 raw3_r_1 raw3_r_2 raw3_x_0 raw3_x_1 raw3_x_2
  go_wp2_with fail
  rw [← hw1]
  rw [← hw2]
  rw [← hw3]
  clear hw3 hw2 hw1
  clear raw1_b_0 raw1_b_1 raw1_b_2 raw2_b_0 raw2_b_1 raw2_b_2 raw2_r_0 raw2_r_1 raw2_r_2 raw3_b_0 raw3_b_1 raw3_b_2 raw3_r_0 raw3_r_1 raw3_r_2 raw3_x_0 raw3_x_1 raw3_x_2
  go_loopw [4] (fun k wr => ∃ (j : Nat) (v : Value), j ≤ un ∧ k = .int .i64 j ∧ wr.cell? ⟨w.heap.size + 1 + 1, 0, none⟩ = some (.string s) ∧ wr.cell? ⟨w.heap.size + 1 + 1, 1, none⟩ = some (.int .i64 i) ∧ wr.cell? ⟨w.heap.size + 1 + 1, 2, none⟩ = some v ∧ wr.frozen? ⟨w.heap.size + 1 + 1, 2, none⟩ = false ∧ Acc 24 oI w3.heap.size w3.heap.size wr.heap.size wr v (rows.take j) ∧ Turn (w.heap.size + 1 + 1) (w.heap.size + 1 + 1 + 1) w3 wr) (fun k _ => un - (intOf k).toNat)
  case atStart => exact ⟨0, _, Nat.zero_le _, rfl, x_0, x_1, x_2, x_f2, Acc.nil, turn_refl _ _ _⟩
  case round =>
    obtain ⟨j, v, hj, rfl, hv0, hv1, hv, hf, hacc, hdr⟩ := hrel
    have hlc := hdr
    have hE0 : w3.heap.size = w.heap.size + 3 := by omega
    obtain ⟨va, vn, vc, rfl⟩ := hacc.form3
    clear x_0 x_1 x_2 x_f0 x_f1 x_f2
    have s4 := hdr.size
    have hb4 := hb3.trans ((hdr.below (by omega)).mono (by omega))
    replace b_0 := (hdr.cell (p := ⟨w.heap.size, 0, none⟩) (by simp only []; omega) (by simp only []; omega)).trans b_0
    replace b_1 := (hdr.cell (p := ⟨w.heap.size, 1, none⟩) (by simp only []; omega) (by simp only []; omega)).trans b_1
    replace b_2 := (hdr.cell (p := ⟨w.heap.size, 2, none⟩) (by simp only []; omega) (by simp only []; omega)).trans b_2
    replace b_f0 := (World.frozen?_of_block (a := ⟨w.heap.size, 0, none⟩) (hdr.block _ (by simp only []; omega) (by simp only []; omega))).trans b_f0
    replace b_f1 := (World.frozen?_of_block (a := ⟨w.heap.size, 1, none⟩) (hdr.block _ (by simp only []; omega) (by simp only []; omega))).trans b_f1
    replace b_f2 := (World.frozen?_of_block (a := ⟨w.heap.size, 2, none⟩) (hdr.block _ (by simp only []; omega) (by simp only []; omega))).trans b_f2
    replace r_0 := (hdr.cell (p := ⟨w.heap.size + 1, 0, none⟩) (by simp only []; omega) (by simp only []; omega)).trans r_0
    replace r_1 := (hdr.cell (p := ⟨w.heap.size + 1, 1, none⟩) (by simp only []; omega) (by simp only []; omega)).trans r_1
    replace r_2 := (hdr.cell (p := ⟨w.heap.size + 1, 2, none⟩) (by simp only []; omega) (by simp only []; omega)).trans r_2
    replace r_f0 := (World.frozen?_of_block (a := ⟨w.heap.size + 1, 0, none⟩) (hdr.block _ (by simp only []; omega) (by simp only []; omega))).trans r_f0
    replace r_f1 := (World.frozen?_of_block (a := ⟨w.heap.size + 1, 1, none⟩) (hdr.block _ (by simp only []; omega) (by simp only []; omega))).trans r_f1
    replace r_f2 := (World.frozen?_of_block (a := ⟨w.heap.size + 1, 2, none⟩) (hdr.block _ (by simp only []; omega) (by simp only []; omega))).trans r_f2
    have y_0 : wr.cell? ⟨w.heap.size + 1 + 1, 0, none⟩ = some (.string s) := hv0
    have y_1 : wr.cell? ⟨w.heap.size + 1 + 1, 1, none⟩ = some (.int .i64 i) := hv1
    have y_2 : wr.cell? ⟨w.heap.size + 1 + 1, 2, none⟩ = some (.slice va vn vc) := hv
    have hlen : (rows.take j).length ≤ j := List.length_take_le _ _
    by_cases hlt : j < un
    · obtain ⟨b1, o1, ra, rn, rc, t, rfl, hc, hx, hri, hq1, hq2⟩ := t0.row hlt
      have hclt : b1 < w.heap.size := cell_lt hc
      have e_0 : wr.cell? ⟨b1, o1 + j, none⟩ = some (.slice ra rn rc) := (hb4.cell (p := ⟨b1, o1 + j, none⟩) hclt).trans hc
      have HT := Lib.hid (take_snoc' rows j t hx.out)
      have hxl := HR.out j t hx.out
      clear hx hc t0 hl g1
      go_wp2_with fail
      have hri2 := (hri.below hb4).below (Below.refl wr.heap.size wr).drew
      have htl : t.length ≤ 100000000 := hxl
      have hrn : rn ≤ 100000000 := by rw [← hri.len]; exact hxl
      refine wp_region_noPanic ?_
      refine wp_region_lastP (fun W => W.cell? ⟨w.heap.size, 2, none⟩ = some (.slice (some ⟨b1, o1, none⟩) un uc) ∧ W.cell? ⟨w.heap.size + 1 + 1, 2, none⟩ = some (.slice va vn vc) ∧ W.cell? ⟨b1, o1 + j, none⟩ = some (.slice ra rn rc)) 12 (by kernel_rfl) rfl (by kernel_rfl) (by kernel_rfl) ?hS (fun hHeld ops hops => ?_)
      case hS => exact ⟨b_2, y_2, e_0⟩
      simp only [List.pop_toArray, List.dropLast_cons_cons, List.dropLast_singleton] at hops
      subst hops
      refine wpAnyH_take (i := 0) (v := ?v0) rfl (by kernel_rfl) (by kernel_rfl) (by kernel_rfl) (fun _ _ _ h => h) (Or.inl ⟨by rfl, ?hy0⟩) (by assumption) ?rest0
      case hy0 => intro w hSw; (try dsimp only at hSw); go_simp; (try with_reducible rfl)
      try simp only [Act.put, List.setIfInBounds_toArray, List.set_cons_zero, List.set_cons_succ]
      refine wpAnyH_take (i := 1) (v := ?v1) rfl (by kernel_rfl) (by kernel_rfl) (by kernel_rfl) (fun _ _ _ h => h) (Or.inl ⟨by rfl, ?hy1⟩) (by assumption) ?rest1
      case hy1 => intro w hSw; (try dsimp only at hSw); go_simp; (try with_reducible rfl)
      try simp only [Act.put, List.setIfInBounds_toArray, List.set_cons_zero, List.set_cons_succ]
      refine wpAnyH_take (i := 3) (v := ?v3) rfl (by kernel_rfl) (by kernel_rfl) (by kernel_rfl) (fun _ _ _ h => h) (Or.inl ⟨by rfl, ?hy3⟩) (by assumption) ?rest3
      case hy3 => intro w hSw; (try dsimp only at hSw); go_simp; (try with_reducible rfl)
      try simp only [Act.put, List.setIfInBounds_toArray, List.set_cons_zero, List.set_cons_succ]
      refine wpAnyH_take (i := 4) (v := ?v4) rfl (by kernel_rfl) (by kernel_rfl) (by kernel_rfl) (fun _ _ _ h => h) (Or.inl ⟨by rfl, ?hy4⟩) (by assumption) ?rest4
      case hy4 => intro w hSw; (try dsimp only at hSw); go_simp; (try with_reducible rfl)
      try simp only [Act.put, List.setIfInBounds_toArray, List.set_cons_zero, List.set_cons_succ]
      refine wpAnyH_take (i := 5) (v := ?v5) rfl (by kernel_rfl) (by kernel_rfl) (by kernel_rfl) (fun _ _ _ h => h) (Or.inl ⟨by rfl, ?hy5⟩) (by assumption) ?rest5
      case hy5 => intro w hSw; (try dsimp only at hSw); go_simp; (try with_reducible rfl)
      try simp only [Act.put, List.setIfInBounds_toArray, List.set_cons_zero, List.set_cons_succ]
      refine wpAnyH_take (i := 6) (v := ?v6) rfl (by kernel_rfl) (by kernel_rfl) (by kernel_rfl) (fun _ _ _ h => h) (Or.inl ⟨by rfl, ?hy6⟩) (by assumption) ?rest6
      case hy6 => intro w hSw; (try dsimp only at hSw); go_simp; (try with_reducible rfl)
      try simp only [Act.put, List.setIfInBounds_toArray, List.set_cons_zero, List.set_cons_succ]
      refine wpAnyH_take (i := 7) (v := ?v7) rfl (by kernel_rfl) (by kernel_rfl) (by kernel_rfl) (fun _ _ _ h => h) (Or.inl ⟨by rfl, ?hy7⟩) (by assumption) ?rest7
      case hy7 => intro w hSw; (try dsimp only at hSw); go_simp; (try with_reducible rfl)
      try simp only [Act.put, List.setIfInBounds_toArray, List.set_cons_zero, List.set_cons_succ]
      refine wpAnyH_ready (rs := [2]) (by kernel_rfl) (by simp) ?_
      refine AllReadyH.cons rfl (fun K hK => ?_) AllReadyH.nil
      go_simp
      refine hK.out _ _ ?_ (fun hHeld => ?_)
      · exact ⟨cell_add b_2, cell_add y_2, cell_add e_0⟩
      clear hK K
      try simp only [Act.put, List.setIfInBounds_toArray, List.set_cons_zero, List.set_cons_succ]
      refine wpAnyH_ready (rs := [8]) (by kernel_rfl) (by simp) ?_
      refine AllReadyH.cons rfl (fun K hK => ?_) AllReadyH.nil
      obtain ⟨v1, w1, hr1, ho1, hbw, hsz1⟩ := run_copyI wr.drew (wr.alloc (.cells #[] 3)).drew 24 rn rc ra t hri2 (by omega) rfl
      refine step_app hr1 (by rfl) (by rfl) (by rfl) (by rfl) (by rfl) ?_
      obtain ⟨a1, n1, c1, rfl⟩ := oI_form1 ho1
      have hb5 : Below wr.heap.size wr w1 := (Below.refl _ _).drew.trans hbw
      have hS1 := (⟨(hb5.cell (p := ⟨w.heap.size, 2, none⟩) (by simp only []; omega)).trans b_2, (hb5.cell (p := ⟨w.heap.size + 1 + 1, 2, none⟩) (by simp only []; omega)).trans y_2, (hb5.cell (p := ⟨b1, o1 + j, none⟩) (by simp only []; omega)).trans e_0⟩ : (fun W => W.cell? ⟨w.heap.size, 2, none⟩ = some (.slice (some ⟨b1, o1, none⟩) un uc) ∧ W.cell? ⟨w.heap.size + 1 + 1, 2, none⟩ = some (.slice va vn vc) ∧ W.cell? ⟨b1, o1 + j, none⟩ = some (.slice ra rn rc)) w1)
      have ho2 : Own oI wr.heap.size w1.heap.size w1 [.slice a1 n1 c1] t := ho1
      have hsz3 : wr.heap.size < w1.heap.size := hsz1
      refine hK.out _ _ ?_ (fun hHeld => ?_)
      · exact hS1
      clear hK K
      try simp only [Act.put, List.setIfInBounds_toArray, List.set_cons_zero, List.set_cons_succ]
      refine wpAnyH_ready (rs := [9]) (by kernel_rfl) (by simp) ?_
      refine AllReadyH.cons rfl (fun K hK => ?_) AllReadyH.nil
      go_simp
      refine hK.out _ _ ?_ (fun hHeld => ?_)
      · exact ⟨cell_ad hS1.1, cell_ad hS1.2.1, cell_ad hS1.2.2⟩
      clear hK K
      try simp only [Act.put, List.setIfInBounds_toArray, List.set_cons_zero, List.set_cons_succ]
      refine wpAnyH_ready (rs := [10]) (by kernel_rfl) (by simp) ?_
      refine AllReadyH.cons rfl (fun K hK => ?_) AllReadyH.nil
      obtain ⟨v2, w2, hr2, hacc2, ht2, hsz2, hk2⟩ := run_acc Try.underlying32 infoI rfl (by decide) (by decide) rfl 32 (.slice va vn vc) (rows.take j) [.slice a1 n1 c1] t (hacc.below hb5 (Nat.le_refl _)) ho2 (by intro z hz; simp at hz; subst hz; rfl) s4 (Nat.le_refl _) (by omega) (Nat.le_refl _) (hlc.trans (turn_below hb5 (Nat.le_refl _))) rfl (.inr (Nat.le_refl _)) (by omega) (by omega) rfl
      refine step_app hr2 (by rfl) (by rfl) (by rfl) (by rfl) (by rfl) ?_
      obtain ⟨a2, n2, c2, rfl⟩ := hacc2.form3
      have hS2 := (⟨(World.cell?_of_block (a := ⟨w.heap.size, 2, none⟩) (hk2 _ (by simp only []; omega) (by simp only []; omega))).trans hS1.1, (World.cell?_of_block (a := ⟨w.heap.size + 1 + 1, 2, none⟩) (hk2 _ (by simp only []; omega) (by simp only []; omega))).trans hS1.2.1, (World.cell?_of_block (a := ⟨b1, o1 + j, none⟩) (hk2 _ (by simp only []; omega) (by simp only []; omega))).trans hS1.2.2⟩ : (fun W => W.cell? ⟨w.heap.size, 2, none⟩ = some (.slice (some ⟨b1, o1, none⟩) un uc) ∧ W.cell? ⟨w.heap.size + 1 + 1, 2, none⟩ = some (.slice va vn vc) ∧ W.cell? ⟨b1, o1 + j, none⟩ = some (.slice ra rn rc)) w2)
      have y_d := hS2.2.1
      have hf2 : w2.frozen? ⟨w.heap.size + 1 + 1, 2, none⟩ = false := (World.frozen?_of_block (a := ⟨w.heap.size + 1 + 1, 2, none⟩) (hk2 _ (by simp only []; omega) (by simp only []; omega))).trans ((hb5.frozen (p := ⟨w.heap.size + 1 + 1, 2, none⟩) (by simp only []; omega)).trans hf)
      refine hK.out _ _ ?_ (fun hHeld => ?_)
      · exact hS2
      clear hK K
      try simp only [Act.put, List.setIfInBounds_toArray, List.set_cons_zero, List.set_cons_succ]
      refine wpAnyH_take (i := 11) (v := ?v11) rfl (by kernel_rfl) (by kernel_rfl) (by kernel_rfl) (fun _ _ _ h => h) (Or.inl ⟨by rfl, ?hy11⟩) (by assumption) ?rest11
      case hy11 => intro w hSw; (try dsimp only at hSw); go_simp; (try with_reducible rfl)
      try simp only [Act.put, List.setIfInBounds_toArray, List.set_cons_zero, List.set_cons_succ]
      refine wpAnyH_done (by kernel_rfl) ?_ _
      simp only [LastQ]
      go_simp
      refine NoPanic.normal ?_
      have y_0d : w2.cell? ⟨w.heap.size + 1 + 1, 0, none⟩ = some (.string s) := (World.cell?_of_block (a := ⟨w.heap.size + 1 + 1, 0, none⟩) (hk2 _ (by simp only []; omega) (by simp only []; omega))).trans ((hb5.cell (p := ⟨w.heap.size + 1 + 1, 0, none⟩) (by simp only []; omega)).trans y_0)
      have y_1d : w2.cell? ⟨w.heap.size + 1 + 1, 1, none⟩ = some (.int .i64 i) := (World.cell?_of_block (a := ⟨w.heap.size + 1 + 1, 1, none⟩) (hk2 _ (by simp only []; omega) (by simp only []; omega))).trans ((hb5.cell (p := ⟨w.heap.size + 1 + 1, 1, none⟩) (by simp only []; omega)).trans y_1)
      rw [← HT.out] at hacc2
      have hacc3 := hacc2.setOut (p := ⟨w.heap.size + 1 + 1, 2, none⟩) (hi' := (w2.setCell ⟨w.heap.size + 1 + 1, 2, none⟩ (.slice a2 n2 c2)).heap.size) (.slice a2 n2 c2) (by simp only []; omega) (by simp only []; omega) (by simp [World.setCell])
      have ht3 := ht2.setIn (p := ⟨w.heap.size + 1 + 1, 2, none⟩) (by simp) (by simp) (.slice a2 n2 c2)
      have k0 : (w2.setCell ⟨w.heap.size + 1 + 1, 2, none⟩ (.slice a2 n2 c2)).cell? ⟨w.heap.size + 1 + 1, 0, none⟩ = some (.string s) := by go_simp
      have k1 : (w2.setCell ⟨w.heap.size + 1 + 1, 2, none⟩ (.slice a2 n2 c2)).cell? ⟨w.heap.size + 1 + 1, 1, none⟩ = some (.int .i64 i) := by go_simp
      have k2 : (w2.setCell ⟨w.heap.size + 1 + 1, 2, none⟩ (.slice a2 n2 c2)).cell? ⟨w.heap.size + 1 + 1, 2, none⟩ = some (.slice a2 n2 c2) := by go_simp
      have k3 : (w2.setCell ⟨w.heap.size + 1 + 1, 2, none⟩ (.slice a2 n2 c2)).frozen? ⟨w.heap.size + 1 + 1, 2, none⟩ = false := by go_simp
      go_wp2_with fail
      refine ⟨⟨j + 1, .slice a2 n2 c2, by omega, by go_num, k0, k1, k2, k3, hacc3, ht3⟩, ?_⟩
      simp [intOf]; omega
    · obtain rfl : j = un := by omega
      rw [List.take_of_length_le (by omega)] at hacc
      go_wp2_with fail
      refine bodyPost_ret (v := .agg #[.string s, .int .i64 i, .slice va vn vc]) (by simp [results, Try.results193, go_sem, y_0, y_1, y_2, r_0, r_1, r_2, r_f0, r_f1, r_f2]) rfl ⟨_, rfl, ?_, ?_⟩
      · refine oT_mk (x := (s, i, rows)) hs hi (l2 := w.heap.size + 1 + 1 + 1) (m2 := wr.heap.size) ?_ (by omega) (by simp [World.setCell])
        repeat (refine Own.setOut ?_ rfl (by simp only []; omega))
        exact hacc.own (by omega) (by omega) (Nat.le_refl _)
      · repeat (refine Below.setCell ?_ (by simp only []; omega) _)
        exact hb4

end Go.Proofs.Ytbkoddikfpkocaa

/- Plain: groups of a table, degrees. -/
namespace Go.Proofs.Ytbkoddikfpkocaa
open Go.RowKit
set_option linter.unusedVariables false
set_option linter.unusedSimpArgs false

theorem colsFrom_len' {n : Int} : ∀ {p : Int} {xs : List Int}, -1 ≤ p → p ≤ n - 1 → colsFrom n p xs = true → (xs.length : Int) ≤ n - 1 - p
  | p, [], h1, h2, _ => by simp; omega
  | p, v :: t, h1, h2, h => by
    simp only [colsFrom, Bool.and_eq_true, decide_eq_true_eq, betw] at h
    have := colsFrom_len' (p := v) (xs := t) (by omega) (by omega) h.2
    simp only [List.length_cons]; omega
theorem colsB_len' {n : Int} {xs : List Int} (hn : 0 ≤ n) (h : colsB n xs = true) : (xs.length : Int) ≤ n := by
  have := colsFrom_len' (n := n) (p := -1) (xs := xs) (by omega) (by omega) h
  omega
/-- Rows at columns. -/
def selRows (rows : List (List Int)) (cs : List Int) : List (List Int) := rows.map (fun r => sel r cs)
theorem selRows_len (rows : List (List Int)) (cs : List Int) : (selRows rows cs).length = rows.length := by simp [selRows]
theorem selRows_step {rows : List (List Int)} {cs r : List Int} {j : Nat} (h : rows[j]? = some r) : selRows (rows.take (j + 1)) cs = selRows (rows.take j) cs ++ [sel r cs] := by
  rw [List.take_add_one, h]; simp [selRows]
theorem selRows_get {rows : List (List Int)} {cs r : List Int} {j : Nat} (h : rows[j]? = some r) : (selRows rows cs)[j]? = some (sel r cs) := by simp [selRows, h]
/-- How often each of some rows stands among rows. -/
def countsOf (gs all : List (List Int)) : List Int := gs.map (fun g => (cntRow g all : Int))
theorem countsOf_len (gs all : List (List Int)) : (countsOf gs all).length = gs.length := by simp [countsOf]
theorem countsOf_step {gs all : List (List Int)} {g : List Int} {j : Nat} (h : gs[j]? = some g) : countsOf (gs.take (j + 1)) all = countsOf (gs.take j) all ++ [(cntRow g all : Int)] := by
  rw [List.take_add_one, h]; simp [countsOf]
theorem cntRow_at {g r : List Int} {all : List (List Int)} {j : Nat} (h : all[j]? = some r) : cntRow g (all.drop j) = (if r = g then 1 else 0) + cntRow g (all.drop (j + 1)) := by
  obtain ⟨h1, rfl⟩ := List.getElem?_eq_some_iff.1 h
  rw [List.drop_eq_getElem_cons h1]
  unfold cntRow
  rw [List.filter_cons]
  by_cases e : all[j] = g <;> simp [e] <;> omega
theorem cntRow_end {g : List Int} {all : List (List Int)} {j : Nat} (h : all.length ≤ j) : cntRow g (all.drop j) = 0 := by
  rw [List.drop_eq_nil_of_le h]; rfl
theorem cntRow_take {g r : List Int} {all : List (List Int)} {j : Nat} (h : all[j]? = some r) : cntRow g (all.take (j + 1)) = cntRow g (all.take j) + (if r = g then 1 else 0) := by
  rw [List.take_add_one, h]
  unfold cntRow
  rw [List.filter_append, List.length_append]
  by_cases e : r = g <;> simp [e]
theorem cntRow_le (g : List Int) (all : List (List Int)) : cntRow g all ≤ all.length := List.length_filter_le _ _
def groups (t : DT) (cs : List Int) : List (List Int) := canon (selRows t.2.2 cs)
/-- GroupCounts. -/
def grpV (t : DT) (cs : List Int) : List (List Int) := if colsT t cs then groups t cs else []
def grpN (t : DT) (cs : List Int) : List Int := if colsT t cs then countsOf (groups t cs) (selRows t.2.2 cs) else []
/-- In descending order. -/
def downS (l : List Int) : List Int := (l.mergeSort (fun x y => decide (x ≤ y))).reverse
theorem downS_len (l : List Int) : (downS l).length = l.length := by simp [downS]
theorem downS_uniq {l s : List Int} (hp : s.Perm l) (hs : s.Pairwise (· ≥ ·)) : s = downS l := by
  refine List.Perm.eq_of_pairwise (le := (· ≥ ·)) (fun a b _ _ h k => Int.le_antisymm k h) hs ?_ (hp.trans ((List.mergeSort_perm l _).symm.trans (List.reverse_perm _).symm))
  unfold downS
  rw [List.pairwise_reverse]
  have := List.pairwise_mergeSort (le := fun x y : Int => decide (x ≤ y)) (by intro a b c; simp; omega) (by intro a b; simp; omega) l
  exact this.imp fun h => by simpa using h
theorem ins_ok {out : List Int} {x : Int} {k : Nat} (hs : out.Pairwise (· ≥ ·)) (hk : k ≤ out.length) (h1 : k = 0 ∨ x ≤ out.getD (k - 1) 0) (h2 : ∀ j, k ≤ j → j < out.length → out.getD j 0 < x) :
    (out.take k ++ [x] ++ out.drop k).Pairwise (· ≥ ·) ∧ (out.take k ++ [x] ++ out.drop k).Perm (out ++ [x]) := by
  have hg : ∀ j (hj : j < out.length), out.getD j 0 = out[j] := fun j hj => by rw [List.getD_eq_getElem?_getD, List.getElem?_eq_getElem hj]; rfl
  have hmono : ∀ i j, i ≤ j → j < out.length → out.getD j 0 ≤ out.getD i 0 := fun i j hij hj => by
    rcases Nat.eq_or_lt_of_le hij with rfl | hlt
    · exact Int.le_refl _
    · rw [hg i (by omega), hg j hj]; exact (List.pairwise_iff_getElem.1 hs) i j (by omega) hj hlt
  constructor
  · rw [List.append_assoc, List.pairwise_append]
    refine ⟨hs.sublist (List.take_sublist _ _), ?_, ?_⟩
    · rw [List.singleton_append, List.pairwise_cons]
      refine ⟨?_, hs.sublist (List.drop_sublist _ _)⟩
      intro y hy
      obtain ⟨j, hj, rfl⟩ := List.mem_iff_getElem.1 hy
      rw [List.length_drop] at hj
      rw [List.getElem_drop, ← hg (k + j) (by omega)]
      have := h2 (k + j) (by omega) (by omega)
      omega
    · intro a ha b hb
      obtain ⟨i, hi, rfl⟩ := List.mem_iff_getElem.1 ha
      rw [List.length_take] at hi
      rw [List.getElem_take, ← hg i (by omega)]
      have hax : x ≤ out.getD i 0 := by
        rcases h1 with h | h
        · omega
        · have := hmono i (k - 1) (by omega) (by omega); omega
      rcases List.mem_append.1 hb with hb | hb
      · simp only [List.mem_singleton] at hb; subst hb; exact hax
      · obtain ⟨j, hj, rfl⟩ := List.mem_iff_getElem.1 hb
        rw [List.length_drop] at hj
        rw [List.getElem_drop, ← hg (k + j) (by omega)]
        have := hmono i (k + j) (by omega) (by omega)
        omega
  · have h9 : (out.take k ++ ([x] ++ out.drop k)).Perm (out.take k ++ (out.drop k ++ [x])) := List.Perm.append_left _ List.perm_append_comm
    rw [List.append_assoc]
    refine h9.trans ?_
    rw [← List.append_assoc, List.take_append_drop]
/-- DegreeSequence. -/
def degSeq (t : DT) (cs : List Int) : List Int := downS (grpN t cs)
/-- The first of a list, 0 if there is none. -/
def headOr (l : List Int) : Int := l.headD 0
theorem headOr_get (l : List Int) : headOr l = l.getD 0 0 := by cases l <;> rfl

end Go.Proofs.Ytbkoddikfpkocaa

/- Contracts: whether a database is valid. -/
namespace Go.Proofs.Ytbkoddikfpkocaa
open Go.RowKit Go.Sort
set_option linter.unusedVariables false
set_option linter.unusedSimpArgs false
set_option synthInstance.maxSize 2000
set_option synthInstance.maxHeartbeats 400000

/-- Names compared. -/
def ltB (s t : ByteArray) : Bool := Op.bytesLess s.toList t.toList
def dbFrom (p : Option ByteArray) : List DT → Bool
  | [] => true
  | t :: r => validT t && ((match p with | none => true | some q => ltB q t.1) && dbFrom (some t.1) r)
/-- Whether a database is valid. -/
def validDb (db : DDb) : Bool := dbFrom none db && decide (db.length ≤ 6)
def prevN (db : List DT) : Nat → Option ByteArray
  | 0 => none
  | j + 1 => (db[j]?).map (fun t => t.1)
theorem dbFrom_at {p : Option ByteArray} {db : List DT} {j : Nat} {t : DT} (h : db[j]? = some t) : dbFrom p (db.drop j) = (validT t && ((match p with | none => true | some q => ltB q t.1) && dbFrom (some t.1) (db.drop (j + 1)))) := by
  rw [drop_at h]; rfl
theorem dbFrom_end {p : Option ByteArray} {db : List DT} {j : Nat} (h : db.length ≤ j) : dbFrom p (db.drop j) = true := by
  rw [List.drop_eq_nil_of_le h]; rfl
theorem prevN_at {db : List DT} {j : Nat} {t : DT} (h : db[j]? = some t) : prevN db (j + 1) = some t.1 := by simp [prevN, h]
theorem validDb_no {db : DDb} (h : dbFrom none db = false) : validDb db = false := by simp [validDb, h]
theorem validDb_len {db : DDb} {n : Nat} (hl : db.length = n) (h : dbFrom none db = true) : validDb db = decide ((n : Int) ≤ 6) := by
  rw [validDb, h, hl, Bool.eq_iff_iff]; simp only [Bool.true_and, decide_eq_true_eq]; omega

set_option maxHeartbeats 4000000 in
theorem validDb_impl (cs : List Value) (x : DDb) (w : World) (h : rDb.rep w cs x) :
    Calls Try.prog 196 #[.agg cs.toArray] w fun e w' => e = .returned (.bool (validDb x)) ∧ Below w.heap.size w w' := by
  obtain ⟨ub, un, uc, rfl, g1⟩ := rDb_open h
  clear h
  have t1 := rS_sl g1
  have hl := t1.len
  have hn := t1.small
  have HV : Hid (dbFrom none x = dbFrom (prevN x 0) (x.drop 0)) := rfl
  have HL := Lib.hid hl
  have hb0 : Below w.heap.size w w := Below.refl _ _
  go_enter Try.func196, Try.ntmps196
  obtain ⟨w1, hw1⟩ : ∃ W, W = w.alloc (.cells #[.slice ub un uc] 89) := ⟨_, rfl⟩
  have z1 : Below w.heap.size w w1 := by rw [hw1]; exact (Below.refl _ _).alloc (Nat.le_refl _) _
  have s1 : w1.heap.size = w.heap.size + 1 := by rw [hw1]; simp
  have hb1 := on hb0 z1
  have b_0 : w1.cell? ⟨w.heap.size, 0, none⟩ = some (.slice ub un uc) := by rw [hw1]; exact box_cell (Below.refl _ _) rfl
  have raw1_b_0 := b_0
  rw [hw1] at raw1_b_0
  go_wp2_with fail
  rw [← hw1]
  clear hw1
  clear raw1_b_0
  go_loopw [8] (fun k wr => ∃ j : Nat, j ≤ un ∧ k = .int .i64 j ∧ Hid (dbFrom none x = dbFrom (prevN x j) (x.drop j)) ∧ Below w1.heap.size w1 wr) (fun k _ => un - (intOf k).toNat)
  case atStart => exact ⟨0, Nat.zero_le _, rfl, HV.out, Below.refl _ _⟩
  case round =>
    obtain ⟨j, hj, rfl, hE, hdr⟩ := hrel
    obtain ⟨wo, rfl⟩ : ∃ W, W = wr := ⟨_, rfl⟩
    have hlc := hdr
    have s2 := hdr.size
    have hb2 := on hb1 hdr
    replace b_0 := (hdr.cell (p := ⟨w.heap.size, 0, none⟩) (by simp only []; omega)).trans b_0
    by_cases hlt : j < un
    · obtain ⟨b1, o1, cs, t, rfl, hx, hr, hc⟩ := t1.at hlt
      have HA := Lib.hid (hE.out.trans (dbFrom_at hx.out))
      have HP := Lib.hid (prevN_at hx.out)
      obtain ⟨s, i, rows⟩ := t
      obtain ⟨tb, tn, tc, rfl, hs, hi, g2⟩ := rT_open hr
      simp only at hs hi g2 HA HP
      have e_lt : b1 < w.heap.size := cell_lt (hc 0 _ rfl)
      have e_0 : wo.cell? ⟨b1, o1 + j * 3, none⟩ = some (.string s) := (hb2.cell (p := ⟨b1, o1 + j * 3, none⟩) e_lt).trans (by have h9 := hc 0 _ rfl; rw [← Nat.add_assoc] at h9; exact h9)
      have e_1 : wo.cell? ⟨b1, o1 + j * 3 + 1, none⟩ = some (.int .i64 i) := (hb2.cell (p := ⟨b1, o1 + j * 3 + 1, none⟩) e_lt).trans (by have h9 := hc 1 _ rfl; rw [← Nat.add_assoc] at h9; exact h9)
      have e_2 : wo.cell? ⟨b1, o1 + j * 3 + 2, none⟩ = some (.slice tb tn tc) := (hb2.cell (p := ⟨b1, o1 + j * 3 + 2, none⟩) e_lt).trans (by have h9 := hc 2 _ rfl; rw [← Nat.add_assoc] at h9; exact h9)
      have hcall := fun W (hW : Below w.heap.size w W) => validT_impl [.string s, .int .i64 i, .slice tb tn tc] (s, i, rows) W (rT.mono hr hW)
      obtain ⟨v, hv⟩ : ∃ v, v = validT (s, i, rows) := ⟨_, rfl⟩
      rw [← hv] at hcall HA
      have HC := Lib.hid hcall
      clear hcall hv hE HV hc hr g2 hl
      by_cases hj0 : j = 0
      · subst hj0
        have z_0 : wo.cell? ⟨b1, o1, none⟩ = some (.string s) := by have h9 := e_0; rw [Nat.zero_mul, Nat.add_zero] at h9; exact h9
        have z_1 : wo.cell? ⟨b1, o1 + 1, none⟩ = some (.int .i64 i) := by have h9 := e_1; rw [Nat.zero_mul, Nat.add_zero] at h9; exact h9
        have z_2 : wo.cell? ⟨b1, o1 + 2, none⟩ = some (.slice tb tn tc) := by have h9 := e_2; rw [Nat.zero_mul, Nat.add_zero] at h9; exact h9
        clear e_0 e_1 e_2
        have HA1 : Hid (dbFrom none x = (v && dbFrom (prevN x (0 + 1)) (x.drop (0 + 1)))) := Lib.hid (by rw [HA.out, HP.out]; simp [prevN])
        clear hx HA HP t1
        cases v with
        | true =>
          have HE : Hid (dbFrom none x = dbFrom (prevN x (0 + 1)) (x.drop (0 + 1))) := Lib.hid (by rw [HA1.out]; rfl)
          obtain ⟨w3, hw3⟩ : ∃ W, W = wo.alloc (.cells #[.string s, .int .i64 i, .slice tb tn tc] 34) := ⟨_, rfl⟩
          have z3 : Below wo.heap.size wo w3 := by rw [hw3]; exact (Below.refl _ _).alloc (Nat.le_refl _) _
          have s3 : w3.heap.size = wo.heap.size + 1 := by rw [hw3]; simp
          have hb3 := on hb2 z3
          have old3_b_0 := b_0
          have old3_z_0 := z_0
          have old3_z_1 := z_1
          have old3_z_2 := z_2
          replace b_0 := (z3.cell (p := ⟨w.heap.size, 0, none⟩) (by simp only []; omega)).trans b_0
          replace hlc := on hlc z3
          replace z_0 := (z3.cell (p := ⟨b1, o1, none⟩) (by simp only []; omega)).trans z_0
          replace z_1 := (z3.cell (p := ⟨b1, o1 + 1, none⟩) (by simp only []; omega)).trans z_1
          replace z_2 := (z3.cell (p := ⟨b1, o1 + 2, none⟩) (by simp only []; omega)).trans z_2
          have p_0 : w3.cell? ⟨wo.heap.size, 0, none⟩ = some (.string s) := by rw [hw3]; exact box_cell (Below.refl _ _) rfl
          have p_1 : w3.cell? ⟨wo.heap.size, 1, none⟩ = some (.int .i64 i) := by rw [hw3]; exact box_cell (Below.refl _ _) rfl
          have p_2 : w3.cell? ⟨wo.heap.size, 2, none⟩ = some (.slice tb tn tc) := by rw [hw3]; exact box_cell (Below.refl _ _) rfl
          have raw3_b_0 := b_0
          have raw3_z_0 := z_0
          have raw3_z_1 := z_1
          have raw3_z_2 := z_2
          have raw3_p_0 := p_0
          have raw3_p_1 := p_1
          have raw3_p_2 := p_2
          rw [hw3] at raw3_b_0 raw3_z_0 raw3_z_1 raw3_z_2 raw3_p_0 raw3_p_1 raw3_p_2
          go_wp2_with fail
          rw [← hw3]
          clear hw3
          clear old3_b_0 old3_z_0 old3_z_1 old3_z_2 raw3_b_0 raw3_z_0 raw3_z_1 raw3_z_2 raw3_p_0 raw3_p_1 raw3_p_2
          have rg_b_0 := cell_regrown b_0
          have rg_z_0 := cell_regrown z_0
          have rg_z_1 := cell_regrown z_1
          have rg_z_2 := cell_regrown z_2
          have rg_p_0 := cell_regrown p_0
          have rg_p_1 := cell_regrown p_1
          have rg_p_2 := cell_regrown p_2
          refine wp_region_quiet_below (by kernel_rfl) (by kernel_rfl) ?_
          repeat (go_big_quiet_step ((first | (go_at_call 137; exact Calls.regrown_of (HC.out _ (on hb3 (below_regrown _ _ _)))))))
          refine wpQuiet_nil ?_
          intro w4 hw4
          have z4 : Below w3.heap.size w3 w4 := by obtain ⟨p9, e9⟩ := hw4; rw [e9]; exact below_regrown _ _ _
          clear hw4 rg_b_0 rg_z_0 rg_z_1 rg_z_2 rg_p_0 rg_p_1 rg_p_2
          have s5 := z4.size
          have hb5 := on hb3 z4
          replace b_0 := (z4.cell (p := ⟨w.heap.size, 0, none⟩) (by simp only []; omega)).trans b_0
          replace hlc := on hlc z4
          replace z_0 := (z4.cell (p := ⟨b1, o1, none⟩) (by simp only []; omega)).trans z_0
          replace z_1 := (z4.cell (p := ⟨b1, o1 + 1, none⟩) (by simp only []; omega)).trans z_1
          replace z_2 := (z4.cell (p := ⟨b1, o1 + 2, none⟩) (by simp only []; omega)).trans z_2
          replace p_0 := (z4.cell (p := ⟨wo.heap.size, 0, none⟩) (by simp only []; omega)).trans p_0
          replace p_1 := (z4.cell (p := ⟨wo.heap.size, 1, none⟩) (by simp only []; omega)).trans p_1
          replace p_2 := (z4.cell (p := ⟨wo.heap.size, 2, none⟩) (by simp only []; omega)).trans p_2
          go_wp2_with fail
          go_roundw
          case rel => exact ⟨1, by omega, rfl, HE.out, hlc⟩
          case measure => simp [intOf]; omega
        | false =>
          have HE := Lib.hid (validDb_no (db := x) (by rw [HA1.out]; rfl))
          obtain ⟨w6, hw6⟩ : ∃ W, W = wo.alloc (.cells #[.string s, .int .i64 i, .slice tb tn tc] 34) := ⟨_, rfl⟩
          have z6 : Below wo.heap.size wo w6 := by rw [hw6]; exact (Below.refl _ _).alloc (Nat.le_refl _) _
          have s6 : w6.heap.size = wo.heap.size + 1 := by rw [hw6]; simp
          have hb6 := on hb2 z6
          have old6_b_0 := b_0
          have old6_z_0 := z_0
          have old6_z_1 := z_1
          have old6_z_2 := z_2
          replace b_0 := (z6.cell (p := ⟨w.heap.size, 0, none⟩) (by simp only []; omega)).trans b_0
          replace hlc := on hlc z6
          replace z_0 := (z6.cell (p := ⟨b1, o1, none⟩) (by simp only []; omega)).trans z_0
          replace z_1 := (z6.cell (p := ⟨b1, o1 + 1, none⟩) (by simp only []; omega)).trans z_1
          replace z_2 := (z6.cell (p := ⟨b1, o1 + 2, none⟩) (by simp only []; omega)).trans z_2
          have p_0 : w6.cell? ⟨wo.heap.size, 0, none⟩ = some (.string s) := by rw [hw6]; exact box_cell (Below.refl _ _) rfl
          have p_1 : w6.cell? ⟨wo.heap.size, 1, none⟩ = some (.int .i64 i) := by rw [hw6]; exact box_cell (Below.refl _ _) rfl
          have p_2 : w6.cell? ⟨wo.heap.size, 2, none⟩ = some (.slice tb tn tc) := by rw [hw6]; exact box_cell (Below.refl _ _) rfl
          have raw6_b_0 := b_0
          have raw6_z_0 := z_0
          have raw6_z_1 := z_1
          have raw6_z_2 := z_2
          have raw6_p_0 := p_0
          have raw6_p_1 := p_1
          have raw6_p_2 := p_2
          rw [hw6] at raw6_b_0 raw6_z_0 raw6_z_1 raw6_z_2 raw6_p_0 raw6_p_1 raw6_p_2
          go_wp2_with fail
          rw [← hw6]
          clear hw6
          clear old6_b_0 old6_z_0 old6_z_1 old6_z_2 raw6_b_0 raw6_z_0 raw6_z_1 raw6_z_2 raw6_p_0 raw6_p_1 raw6_p_2
          have rg_b_0 := cell_regrown b_0
          have rg_z_0 := cell_regrown z_0
          have rg_z_1 := cell_regrown z_1
          have rg_z_2 := cell_regrown z_2
          have rg_p_0 := cell_regrown p_0
          have rg_p_1 := cell_regrown p_1
          have rg_p_2 := cell_regrown p_2
          refine wp_region_quiet_below (by kernel_rfl) (by kernel_rfl) ?_
          repeat (go_big_quiet_step ((first | (go_at_call 137; exact Calls.regrown_of (HC.out _ (on hb6 (below_regrown _ _ _)))))))
          refine wpQuiet_nil ?_
          intro w7 hw7
          have z7 : Below w6.heap.size w6 w7 := by obtain ⟨p9, e9⟩ := hw7; rw [e9]; exact below_regrown _ _ _
          clear hw7 rg_b_0 rg_z_0 rg_z_1 rg_z_2 rg_p_0 rg_p_1 rg_p_2
          have s8 := z7.size
          have hb8 := on hb6 z7
          replace b_0 := (z7.cell (p := ⟨w.heap.size, 0, none⟩) (by simp only []; omega)).trans b_0
          replace hlc := on hlc z7
          replace z_0 := (z7.cell (p := ⟨b1, o1, none⟩) (by simp only []; omega)).trans z_0
          replace z_1 := (z7.cell (p := ⟨b1, o1 + 1, none⟩) (by simp only []; omega)).trans z_1
          replace z_2 := (z7.cell (p := ⟨b1, o1 + 2, none⟩) (by simp only []; omega)).trans z_2
          replace p_0 := (z7.cell (p := ⟨wo.heap.size, 0, none⟩) (by simp only []; omega)).trans p_0
          replace p_1 := (z7.cell (p := ⟨wo.heap.size, 1, none⟩) (by simp only []; omega)).trans p_1
          replace p_2 := (z7.cell (p := ⟨wo.heap.size, 2, none⟩) (by simp only []; omega)).trans p_2
          go_wp2_with fail
          go_ret
          exact ⟨ret_bool HE.out.symm, hb8⟩
      obtain ⟨l, rfl⟩ : ∃ l, j = l + 1 := ⟨j - 1, by omega⟩
      obtain ⟨b9, o9, cs, t, hb9, hy, hr, hc⟩ := t1.at (show l < un by omega)
      simp at hb9
      obtain ⟨rfl, rfl⟩ := hb9
      have HP2 := Lib.hid (prevN_at hy.out)
      obtain ⟨s2, i2, rows2⟩ := t
      obtain ⟨tb2, tn2, tc2, rfl, hs2, hi2, g2⟩ := rT_open hr
      simp only at HP2
      have f_lt : b1 < w.heap.size := cell_lt (hc 0 _ rfl)
      have f_0 : wo.cell? ⟨b1, o1 + l * 3, none⟩ = some (.string s2) := (hb2.cell (p := ⟨b1, o1 + l * 3, none⟩) f_lt).trans (by have h9 := hc 0 _ rfl; rw [← Nat.add_assoc] at h9; exact h9)
      have f_1 : wo.cell? ⟨b1, o1 + l * 3 + 1, none⟩ = some (.int .i64 i2) := (hb2.cell (p := ⟨b1, o1 + l * 3 + 1, none⟩) f_lt).trans (by have h9 := hc 1 _ rfl; rw [← Nat.add_assoc] at h9; exact h9)
      have f_2 : wo.cell? ⟨b1, o1 + l * 3 + 2, none⟩ = some (.slice tb2 tn2 tc2) := (hb2.cell (p := ⟨b1, o1 + l * 3 + 2, none⟩) f_lt).trans (by have h9 := hc 2 _ rfl; rw [← Nat.add_assoc] at h9; exact h9)
      have HA1 : Hid (dbFrom none x = (v && (ltB s2 s && dbFrom (prevN x (l + 1 + 1)) (x.drop (l + 1 + 1))))) := Lib.hid (by rw [HA.out, HP.out, HP2.out])
      clear hx hy HA HP HP2 t1 hc hr g2 hj0
      obtain ⟨q, hq⟩ : ∃ q, q = ltB s2 s := ⟨_, rfl⟩
      rw [← hq] at HA1
      have hq2 : Op.bytesLess s2.toList s.toList = q := hq.symm
      clear hq
      have hi63 : IntKind.i64.wrap (l : Int) = (l : Int) := IntWalk.i64_in _ (by omega)
      cases v with
      | false =>
        have HE := Lib.hid (validDb_no (db := x) (by rw [HA1.out]; rfl))
        obtain ⟨w9, hw9⟩ : ∃ W, W = wo.alloc (.cells #[.string s, .int .i64 i, .slice tb tn tc] 34) := ⟨_, rfl⟩
        have z9 : Below wo.heap.size wo w9 := by rw [hw9]; exact (Below.refl _ _).alloc (Nat.le_refl _) _
        have s9 : w9.heap.size = wo.heap.size + 1 := by rw [hw9]; simp
        have hb9 := on hb2 z9
        have old9_b_0 := b_0
        have old9_e_0 := e_0
        have old9_e_1 := e_1
        have old9_e_2 := e_2
        have old9_f_0 := f_0
        have old9_f_1 := f_1
        have old9_f_2 := f_2
        replace b_0 := (z9.cell (p := ⟨w.heap.size, 0, none⟩) (by simp only []; omega)).trans b_0
        replace hlc := on hlc z9
        replace e_0 := (z9.cell (p := ⟨b1, o1 + (l + 1) * 3, none⟩) (by simp only []; omega)).trans e_0
        replace e_1 := (z9.cell (p := ⟨b1, o1 + (l + 1) * 3 + 1, none⟩) (by simp only []; omega)).trans e_1
        replace e_2 := (z9.cell (p := ⟨b1, o1 + (l + 1) * 3 + 2, none⟩) (by simp only []; omega)).trans e_2
        replace f_0 := (z9.cell (p := ⟨b1, o1 + l * 3, none⟩) (by simp only []; omega)).trans f_0
        replace f_1 := (z9.cell (p := ⟨b1, o1 + l * 3 + 1, none⟩) (by simp only []; omega)).trans f_1
        replace f_2 := (z9.cell (p := ⟨b1, o1 + l * 3 + 2, none⟩) (by simp only []; omega)).trans f_2
        have p_0 : w9.cell? ⟨wo.heap.size, 0, none⟩ = some (.string s) := by rw [hw9]; exact box_cell (Below.refl _ _) rfl
        have p_1 : w9.cell? ⟨wo.heap.size, 1, none⟩ = some (.int .i64 i) := by rw [hw9]; exact box_cell (Below.refl _ _) rfl
        have p_2 : w9.cell? ⟨wo.heap.size, 2, none⟩ = some (.slice tb tn tc) := by rw [hw9]; exact box_cell (Below.refl _ _) rfl
        have raw9_b_0 := b_0
        have raw9_e_0 := e_0
        have raw9_e_1 := e_1
        have raw9_e_2 := e_2
        have raw9_f_0 := f_0
        have raw9_f_1 := f_1
        have raw9_f_2 := f_2
        have raw9_p_0 := p_0
        have raw9_p_1 := p_1
        have raw9_p_2 := p_2
        rw [hw9] at raw9_b_0 raw9_e_0 raw9_e_1 raw9_e_2 raw9_f_0 raw9_f_1 raw9_f_2 raw9_p_0 raw9_p_1 raw9_p_2
        go_wp2_with fail
        rw [← hw9]
        clear hw9
        clear old9_b_0 old9_e_0 old9_e_1 old9_e_2 old9_f_0 old9_f_1 old9_f_2 raw9_b_0 raw9_e_0 raw9_e_1 raw9_e_2 raw9_f_0 raw9_f_1 raw9_f_2 raw9_p_0 raw9_p_1 raw9_p_2
        have rg_b_0 := cell_regrown b_0
        have rg_e_0 := cell_regrown e_0
        have rg_e_1 := cell_regrown e_1
        have rg_e_2 := cell_regrown e_2
        have rg_f_0 := cell_regrown f_0
        have rg_f_1 := cell_regrown f_1
        have rg_f_2 := cell_regrown f_2
        have rg_p_0 := cell_regrown p_0
        have rg_p_1 := cell_regrown p_1
        have rg_p_2 := cell_regrown p_2
        refine wp_region_quiet_below (by kernel_rfl) (by kernel_rfl) ?_
        repeat (go_big_quiet_step ((first | (go_at_call 137; exact Calls.regrown_of (HC.out _ (on hb9 (below_regrown _ _ _)))))))
        refine wpQuiet_nil ?_
        intro w10 hw10
        have z10 : Below w9.heap.size w9 w10 := by obtain ⟨p9, e9⟩ := hw10; rw [e9]; exact below_regrown _ _ _
        clear hw10 rg_b_0 rg_e_0 rg_e_1 rg_e_2 rg_f_0 rg_f_1 rg_f_2 rg_p_0 rg_p_1 rg_p_2
        have s11 := z10.size
        have hb11 := on hb9 z10
        replace b_0 := (z10.cell (p := ⟨w.heap.size, 0, none⟩) (by simp only []; omega)).trans b_0
        replace hlc := on hlc z10
        replace e_0 := (z10.cell (p := ⟨b1, o1 + (l + 1) * 3, none⟩) (by simp only []; omega)).trans e_0
        replace e_1 := (z10.cell (p := ⟨b1, o1 + (l + 1) * 3 + 1, none⟩) (by simp only []; omega)).trans e_1
        replace e_2 := (z10.cell (p := ⟨b1, o1 + (l + 1) * 3 + 2, none⟩) (by simp only []; omega)).trans e_2
        replace f_0 := (z10.cell (p := ⟨b1, o1 + l * 3, none⟩) (by simp only []; omega)).trans f_0
        replace f_1 := (z10.cell (p := ⟨b1, o1 + l * 3 + 1, none⟩) (by simp only []; omega)).trans f_1
        replace f_2 := (z10.cell (p := ⟨b1, o1 + l * 3 + 2, none⟩) (by simp only []; omega)).trans f_2
        replace p_0 := (z10.cell (p := ⟨wo.heap.size, 0, none⟩) (by simp only []; omega)).trans p_0
        replace p_1 := (z10.cell (p := ⟨wo.heap.size, 1, none⟩) (by simp only []; omega)).trans p_1
        replace p_2 := (z10.cell (p := ⟨wo.heap.size, 2, none⟩) (by simp only []; omega)).trans p_2
        clear hi63
        go_wp2_with fail
        go_ret
        exact ⟨ret_bool HE.out.symm, hb11⟩
      | true =>
        cases q with
        | false =>
          have HE := Lib.hid (validDb_no (db := x) (by rw [HA1.out]; rfl))
          obtain ⟨w12, hw12⟩ : ∃ W, W = wo.alloc (.cells #[.string s, .int .i64 i, .slice tb tn tc] 34) := ⟨_, rfl⟩
          have z12 : Below wo.heap.size wo w12 := by rw [hw12]; exact (Below.refl _ _).alloc (Nat.le_refl _) _
          have s12 : w12.heap.size = wo.heap.size + 1 := by rw [hw12]; simp
          have hb12 := on hb2 z12
          have old12_b_0 := b_0
          have old12_e_0 := e_0
          have old12_e_1 := e_1
          have old12_e_2 := e_2
          have old12_f_0 := f_0
          have old12_f_1 := f_1
          have old12_f_2 := f_2
          replace b_0 := (z12.cell (p := ⟨w.heap.size, 0, none⟩) (by simp only []; omega)).trans b_0
          replace hlc := on hlc z12
          replace e_0 := (z12.cell (p := ⟨b1, o1 + (l + 1) * 3, none⟩) (by simp only []; omega)).trans e_0
          replace e_1 := (z12.cell (p := ⟨b1, o1 + (l + 1) * 3 + 1, none⟩) (by simp only []; omega)).trans e_1
          replace e_2 := (z12.cell (p := ⟨b1, o1 + (l + 1) * 3 + 2, none⟩) (by simp only []; omega)).trans e_2
          replace f_0 := (z12.cell (p := ⟨b1, o1 + l * 3, none⟩) (by simp only []; omega)).trans f_0
          replace f_1 := (z12.cell (p := ⟨b1, o1 + l * 3 + 1, none⟩) (by simp only []; omega)).trans f_1
          replace f_2 := (z12.cell (p := ⟨b1, o1 + l * 3 + 2, none⟩) (by simp only []; omega)).trans f_2
          have p_0 : w12.cell? ⟨wo.heap.size, 0, none⟩ = some (.string s) := by rw [hw12]; exact box_cell (Below.refl _ _) rfl
          have p_1 : w12.cell? ⟨wo.heap.size, 1, none⟩ = some (.int .i64 i) := by rw [hw12]; exact box_cell (Below.refl _ _) rfl
          have p_2 : w12.cell? ⟨wo.heap.size, 2, none⟩ = some (.slice tb tn tc) := by rw [hw12]; exact box_cell (Below.refl _ _) rfl
          have raw12_b_0 := b_0
          have raw12_e_0 := e_0
          have raw12_e_1 := e_1
          have raw12_e_2 := e_2
          have raw12_f_0 := f_0
          have raw12_f_1 := f_1
          have raw12_f_2 := f_2
          have raw12_p_0 := p_0
          have raw12_p_1 := p_1
          have raw12_p_2 := p_2
          rw [hw12] at raw12_b_0 raw12_e_0 raw12_e_1 raw12_e_2 raw12_f_0 raw12_f_1 raw12_f_2 raw12_p_0 raw12_p_1 raw12_p_2
          go_wp2_with fail
          rw [← hw12]
          clear hw12
          clear old12_b_0 old12_e_0 old12_e_1 old12_e_2 old12_f_0 old12_f_1 old12_f_2 raw12_b_0 raw12_e_0 raw12_e_1 raw12_e_2 raw12_f_0 raw12_f_1 raw12_f_2 raw12_p_0 raw12_p_1 raw12_p_2
          have rg_b_0 := cell_regrown b_0
          have rg_e_0 := cell_regrown e_0
          have rg_e_1 := cell_regrown e_1
          have rg_e_2 := cell_regrown e_2
          have rg_f_0 := cell_regrown f_0
          have rg_f_1 := cell_regrown f_1
          have rg_f_2 := cell_regrown f_2
          have rg_p_0 := cell_regrown p_0
          have rg_p_1 := cell_regrown p_1
          have rg_p_2 := cell_regrown p_2
          refine wp_region_quiet_below (by kernel_rfl) (by kernel_rfl) ?_
          repeat (go_big_quiet_step ((first | (go_at_call 137; exact Calls.regrown_of (HC.out _ (on hb12 (below_regrown _ _ _)))))))
          refine wpQuiet_nil ?_
          intro w13 hw13
          have z13 : Below w12.heap.size w12 w13 := by obtain ⟨p9, e9⟩ := hw13; rw [e9]; exact below_regrown _ _ _
          clear hw13 rg_b_0 rg_e_0 rg_e_1 rg_e_2 rg_f_0 rg_f_1 rg_f_2 rg_p_0 rg_p_1 rg_p_2
          have s14 := z13.size
          have hb14 := on hb12 z13
          replace b_0 := (z13.cell (p := ⟨w.heap.size, 0, none⟩) (by simp only []; omega)).trans b_0
          replace hlc := on hlc z13
          replace e_0 := (z13.cell (p := ⟨b1, o1 + (l + 1) * 3, none⟩) (by simp only []; omega)).trans e_0
          replace e_1 := (z13.cell (p := ⟨b1, o1 + (l + 1) * 3 + 1, none⟩) (by simp only []; omega)).trans e_1
          replace e_2 := (z13.cell (p := ⟨b1, o1 + (l + 1) * 3 + 2, none⟩) (by simp only []; omega)).trans e_2
          replace f_0 := (z13.cell (p := ⟨b1, o1 + l * 3, none⟩) (by simp only []; omega)).trans f_0
          replace f_1 := (z13.cell (p := ⟨b1, o1 + l * 3 + 1, none⟩) (by simp only []; omega)).trans f_1
          replace f_2 := (z13.cell (p := ⟨b1, o1 + l * 3 + 2, none⟩) (by simp only []; omega)).trans f_2
          replace p_0 := (z13.cell (p := ⟨wo.heap.size, 0, none⟩) (by simp only []; omega)).trans p_0
          replace p_1 := (z13.cell (p := ⟨wo.heap.size, 1, none⟩) (by simp only []; omega)).trans p_1
          replace p_2 := (z13.cell (p := ⟨wo.heap.size, 2, none⟩) (by simp only []; omega)).trans p_2
          clear hi63
          go_wp2_with fail
          go_ret
          exact ⟨ret_bool HE.out.symm, hb14⟩
        | true =>
          have HE : Hid (dbFrom none x = dbFrom (prevN x (l + 1 + 1)) (x.drop (l + 1 + 1))) := Lib.hid (by rw [HA1.out]; rfl)
          obtain ⟨w15, hw15⟩ : ∃ W, W = wo.alloc (.cells #[.string s, .int .i64 i, .slice tb tn tc] 34) := ⟨_, rfl⟩
          have z15 : Below wo.heap.size wo w15 := by rw [hw15]; exact (Below.refl _ _).alloc (Nat.le_refl _) _
          have s15 : w15.heap.size = wo.heap.size + 1 := by rw [hw15]; simp
          have hb15 := on hb2 z15
          have old15_b_0 := b_0
          have old15_e_0 := e_0
          have old15_e_1 := e_1
          have old15_e_2 := e_2
          have old15_f_0 := f_0
          have old15_f_1 := f_1
          have old15_f_2 := f_2
          replace b_0 := (z15.cell (p := ⟨w.heap.size, 0, none⟩) (by simp only []; omega)).trans b_0
          replace hlc := on hlc z15
          replace e_0 := (z15.cell (p := ⟨b1, o1 + (l + 1) * 3, none⟩) (by simp only []; omega)).trans e_0
          replace e_1 := (z15.cell (p := ⟨b1, o1 + (l + 1) * 3 + 1, none⟩) (by simp only []; omega)).trans e_1
          replace e_2 := (z15.cell (p := ⟨b1, o1 + (l + 1) * 3 + 2, none⟩) (by simp only []; omega)).trans e_2
          replace f_0 := (z15.cell (p := ⟨b1, o1 + l * 3, none⟩) (by simp only []; omega)).trans f_0
          replace f_1 := (z15.cell (p := ⟨b1, o1 + l * 3 + 1, none⟩) (by simp only []; omega)).trans f_1
          replace f_2 := (z15.cell (p := ⟨b1, o1 + l * 3 + 2, none⟩) (by simp only []; omega)).trans f_2
          have p_0 : w15.cell? ⟨wo.heap.size, 0, none⟩ = some (.string s) := by rw [hw15]; exact box_cell (Below.refl _ _) rfl
          have p_1 : w15.cell? ⟨wo.heap.size, 1, none⟩ = some (.int .i64 i) := by rw [hw15]; exact box_cell (Below.refl _ _) rfl
          have p_2 : w15.cell? ⟨wo.heap.size, 2, none⟩ = some (.slice tb tn tc) := by rw [hw15]; exact box_cell (Below.refl _ _) rfl
          have raw15_b_0 := b_0
          have raw15_e_0 := e_0
          have raw15_e_1 := e_1
          have raw15_e_2 := e_2
          have raw15_f_0 := f_0
          have raw15_f_1 := f_1
          have raw15_f_2 := f_2
          have raw15_p_0 := p_0
          have raw15_p_1 := p_1
          have raw15_p_2 := p_2
          rw [hw15] at raw15_b_0 raw15_e_0 raw15_e_1 raw15_e_2 raw15_f_0 raw15_f_1 raw15_f_2 raw15_p_0 raw15_p_1 raw15_p_2
          go_wp2_with fail
          rw [← hw15]
          clear hw15
          clear old15_b_0 old15_e_0 old15_e_1 old15_e_2 old15_f_0 old15_f_1 old15_f_2 raw15_b_0 raw15_e_0 raw15_e_1 raw15_e_2 raw15_f_0 raw15_f_1 raw15_f_2 raw15_p_0 raw15_p_1 raw15_p_2
          have rg_b_0 := cell_regrown b_0
          have rg_e_0 := cell_regrown e_0
          have rg_e_1 := cell_regrown e_1
          have rg_e_2 := cell_regrown e_2
          have rg_f_0 := cell_regrown f_0
          have rg_f_1 := cell_regrown f_1
          have rg_f_2 := cell_regrown f_2
          have rg_p_0 := cell_regrown p_0
          have rg_p_1 := cell_regrown p_1
          have rg_p_2 := cell_regrown p_2
          refine wp_region_quiet_below (by kernel_rfl) (by kernel_rfl) ?_
          repeat (go_big_quiet_step ((first | (go_at_call 137; exact Calls.regrown_of (HC.out _ (on hb15 (below_regrown _ _ _)))))))
          refine wpQuiet_nil ?_
          intro w16 hw16
          have z16 : Below w15.heap.size w15 w16 := by obtain ⟨p9, e9⟩ := hw16; rw [e9]; exact below_regrown _ _ _
          clear hw16 rg_b_0 rg_e_0 rg_e_1 rg_e_2 rg_f_0 rg_f_1 rg_f_2 rg_p_0 rg_p_1 rg_p_2
          have s17 := z16.size
          have hb17 := on hb15 z16
          replace b_0 := (z16.cell (p := ⟨w.heap.size, 0, none⟩) (by simp only []; omega)).trans b_0
          replace hlc := on hlc z16
          replace e_0 := (z16.cell (p := ⟨b1, o1 + (l + 1) * 3, none⟩) (by simp only []; omega)).trans e_0
          replace e_1 := (z16.cell (p := ⟨b1, o1 + (l + 1) * 3 + 1, none⟩) (by simp only []; omega)).trans e_1
          replace e_2 := (z16.cell (p := ⟨b1, o1 + (l + 1) * 3 + 2, none⟩) (by simp only []; omega)).trans e_2
          replace f_0 := (z16.cell (p := ⟨b1, o1 + l * 3, none⟩) (by simp only []; omega)).trans f_0
          replace f_1 := (z16.cell (p := ⟨b1, o1 + l * 3 + 1, none⟩) (by simp only []; omega)).trans f_1
          replace f_2 := (z16.cell (p := ⟨b1, o1 + l * 3 + 2, none⟩) (by simp only []; omega)).trans f_2
          replace p_0 := (z16.cell (p := ⟨wo.heap.size, 0, none⟩) (by simp only []; omega)).trans p_0
          replace p_1 := (z16.cell (p := ⟨wo.heap.size, 1, none⟩) (by simp only []; omega)).trans p_1
          replace p_2 := (z16.cell (p := ⟨wo.heap.size, 2, none⟩) (by simp only []; omega)).trans p_2
          clear hi63
          go_wp2_with fail
          go_roundw
          case rel => exact ⟨l + 1 + 1, by omega, by go_num, HE.out, hlc⟩
          case measure => simp [intOf]; omega
    · have HE := Lib.hid (validDb_len HL.out (hE.out.trans (dbFrom_end (by have := HL.out; omega))))
      clear t1 hl hE HV
      go_wp2_with fail
      go_ret
      exact ⟨ret_bool (by rw [HE.out]), hb2⟩

set_option maxHeartbeats 4000000 in
theorem validDb_spec (cs : List Value) (x : DDb) (w : World) (h : rDb.rep w cs x) :
    Calls Try.prog 192 #[.agg cs.toArray] w fun e w' => e = .returned (.bool (validDb x)) ∧ Below w.heap.size w w' := by
  obtain ⟨ub, un, uc, rfl, g1⟩ := rDb_open h
  clear h
  have t1 := rS_sl g1
  have hl := t1.len
  have hn := t1.small
  have HV : Hid (dbFrom none x = dbFrom (prevN x 0) (x.drop 0)) := rfl
  have HL := Lib.hid hl
  have hb0 : Below w.heap.size w w := Below.refl _ _
  go_enter Try.func192, Try.ntmps192
  obtain ⟨w1, hw1⟩ : ∃ W, W = w.alloc (.cells #[.slice ub un uc] 89) := ⟨_, rfl⟩
  have z1 : Below w.heap.size w w1 := by rw [hw1]; exact (Below.refl _ _).alloc (Nat.le_refl _) _
  have s1 : w1.heap.size = w.heap.size + 1 := by rw [hw1]; simp
  have hb1 := on hb0 z1
  have b_0 : w1.cell? ⟨w.heap.size, 0, none⟩ = some (.slice ub un uc) := by rw [hw1]; exact box_cell (Below.refl _ _) rfl
  have raw1_b_0 := b_0
  rw [hw1] at raw1_b_0
  go_wp2_with fail
  rw [← hw1]
  clear hw1
  clear raw1_b_0
  go_loopw [3] (fun k wr => ∃ j : Nat, j ≤ un ∧ k = .int .i64 j ∧ Hid (dbFrom none x = dbFrom (prevN x j) (x.drop j)) ∧ Below w1.heap.size w1 wr) (fun k _ => un - (intOf k).toNat)
  case atStart => exact ⟨0, Nat.zero_le _, rfl, HV.out, Below.refl _ _⟩
  case round =>
    obtain ⟨j, hj, rfl, hE, hdr⟩ := hrel
    obtain ⟨wo, rfl⟩ : ∃ W, W = wr := ⟨_, rfl⟩
    have hlc := hdr
    have s2 := hdr.size
    have hb2 := on hb1 hdr
    replace b_0 := (hdr.cell (p := ⟨w.heap.size, 0, none⟩) (by simp only []; omega)).trans b_0
    by_cases hlt : j < un
    · obtain ⟨b1, o1, cs, t, rfl, hx, hr, hc⟩ := t1.at hlt
      have HA := Lib.hid (hE.out.trans (dbFrom_at hx.out))
      have HP := Lib.hid (prevN_at hx.out)
      obtain ⟨s, i, rows⟩ := t
      obtain ⟨tb, tn, tc, rfl, hs, hi, g2⟩ := rT_open hr
      simp only at hs hi g2 HA HP
      have e_lt : b1 < w.heap.size := cell_lt (hc 0 _ rfl)
      have e_0 : wo.cell? ⟨b1, o1 + j * 3, none⟩ = some (.string s) := (hb2.cell (p := ⟨b1, o1 + j * 3, none⟩) e_lt).trans (by have h9 := hc 0 _ rfl; rw [← Nat.add_assoc] at h9; exact h9)
      have e_1 : wo.cell? ⟨b1, o1 + j * 3 + 1, none⟩ = some (.int .i64 i) := (hb2.cell (p := ⟨b1, o1 + j * 3 + 1, none⟩) e_lt).trans (by have h9 := hc 1 _ rfl; rw [← Nat.add_assoc] at h9; exact h9)
      have e_2 : wo.cell? ⟨b1, o1 + j * 3 + 2, none⟩ = some (.slice tb tn tc) := (hb2.cell (p := ⟨b1, o1 + j * 3 + 2, none⟩) e_lt).trans (by have h9 := hc 2 _ rfl; rw [← Nat.add_assoc] at h9; exact h9)
      have hcall := fun W (hW : Below w.heap.size w W) => validT_spec [.string s, .int .i64 i, .slice tb tn tc] (s, i, rows) W (rT.mono hr hW)
      obtain ⟨v, hv⟩ : ∃ v, v = validT (s, i, rows) := ⟨_, rfl⟩
      rw [← hv] at hcall HA
      have HC := Lib.hid hcall
      clear hcall hv hE HV hc hr g2 hl
      by_cases hj0 : j = 0
      · subst hj0
        have z_0 : wo.cell? ⟨b1, o1, none⟩ = some (.string s) := by have h9 := e_0; rw [Nat.zero_mul, Nat.add_zero] at h9; exact h9
        have z_1 : wo.cell? ⟨b1, o1 + 1, none⟩ = some (.int .i64 i) := by have h9 := e_1; rw [Nat.zero_mul, Nat.add_zero] at h9; exact h9
        have z_2 : wo.cell? ⟨b1, o1 + 2, none⟩ = some (.slice tb tn tc) := by have h9 := e_2; rw [Nat.zero_mul, Nat.add_zero] at h9; exact h9
        clear e_0 e_1 e_2
        have HA1 : Hid (dbFrom none x = (v && dbFrom (prevN x (0 + 1)) (x.drop (0 + 1)))) := Lib.hid (by rw [HA.out, HP.out]; simp [prevN])
        clear hx HA HP t1
        cases v with
        | true =>
          have HE : Hid (dbFrom none x = dbFrom (prevN x (0 + 1)) (x.drop (0 + 1))) := Lib.hid (by rw [HA1.out]; rfl)
          go_wp2_with fail
          have rg_b_0 := cell_regrown b_0
          have rg_z_0 := cell_regrown z_0
          have rg_z_1 := cell_regrown z_1
          have rg_z_2 := cell_regrown z_2
          refine wp_region_quiet_below (by kernel_rfl) (by kernel_rfl) ?_
          repeat (go_big_quiet_step ((first | (go_at_call 27; exact Calls.regrown_of (HC.out _ (on hb2 (below_regrown _ _ _)))))))
          refine wpQuiet_nil ?_
          intro w3 hw3
          have z3 : Below wo.heap.size wo w3 := by obtain ⟨p9, e9⟩ := hw3; rw [e9]; exact below_regrown _ _ _
          clear hw3 rg_b_0 rg_z_0 rg_z_1 rg_z_2
          have s4 := z3.size
          have hb4 := on hb2 z3
          replace b_0 := (z3.cell (p := ⟨w.heap.size, 0, none⟩) (by simp only []; omega)).trans b_0
          replace hlc := on hlc z3
          replace z_0 := (z3.cell (p := ⟨b1, o1, none⟩) (by simp only []; omega)).trans z_0
          replace z_1 := (z3.cell (p := ⟨b1, o1 + 1, none⟩) (by simp only []; omega)).trans z_1
          replace z_2 := (z3.cell (p := ⟨b1, o1 + 2, none⟩) (by simp only []; omega)).trans z_2
          go_wp2_with fail
          go_roundw
          case rel => exact ⟨1, by omega, rfl, HE.out, hlc⟩
          case measure => simp [intOf]; omega
        | false =>
          have HE := Lib.hid (validDb_no (db := x) (by rw [HA1.out]; rfl))
          go_wp2_with fail
          have rg_b_0 := cell_regrown b_0
          have rg_z_0 := cell_regrown z_0
          have rg_z_1 := cell_regrown z_1
          have rg_z_2 := cell_regrown z_2
          refine wp_region_quiet_below (by kernel_rfl) (by kernel_rfl) ?_
          repeat (go_big_quiet_step ((first | (go_at_call 27; exact Calls.regrown_of (HC.out _ (on hb2 (below_regrown _ _ _)))))))
          refine wpQuiet_nil ?_
          intro w5 hw5
          have z5 : Below wo.heap.size wo w5 := by obtain ⟨p9, e9⟩ := hw5; rw [e9]; exact below_regrown _ _ _
          clear hw5 rg_b_0 rg_z_0 rg_z_1 rg_z_2
          have s6 := z5.size
          have hb6 := on hb2 z5
          replace b_0 := (z5.cell (p := ⟨w.heap.size, 0, none⟩) (by simp only []; omega)).trans b_0
          replace hlc := on hlc z5
          replace z_0 := (z5.cell (p := ⟨b1, o1, none⟩) (by simp only []; omega)).trans z_0
          replace z_1 := (z5.cell (p := ⟨b1, o1 + 1, none⟩) (by simp only []; omega)).trans z_1
          replace z_2 := (z5.cell (p := ⟨b1, o1 + 2, none⟩) (by simp only []; omega)).trans z_2
          go_wp2_with fail
          go_ret
          exact ⟨ret_bool HE.out.symm, hb6⟩
      obtain ⟨l, rfl⟩ : ∃ l, j = l + 1 := ⟨j - 1, by omega⟩
      obtain ⟨b9, o9, cs, t, hb9, hy, hr, hc⟩ := t1.at (show l < un by omega)
      simp at hb9
      obtain ⟨rfl, rfl⟩ := hb9
      have HP2 := Lib.hid (prevN_at hy.out)
      obtain ⟨s2, i2, rows2⟩ := t
      obtain ⟨tb2, tn2, tc2, rfl, hs2, hi2, g2⟩ := rT_open hr
      simp only at HP2
      have f_lt : b1 < w.heap.size := cell_lt (hc 0 _ rfl)
      have f_0 : wo.cell? ⟨b1, o1 + l * 3, none⟩ = some (.string s2) := (hb2.cell (p := ⟨b1, o1 + l * 3, none⟩) f_lt).trans (by have h9 := hc 0 _ rfl; rw [← Nat.add_assoc] at h9; exact h9)
      have f_1 : wo.cell? ⟨b1, o1 + l * 3 + 1, none⟩ = some (.int .i64 i2) := (hb2.cell (p := ⟨b1, o1 + l * 3 + 1, none⟩) f_lt).trans (by have h9 := hc 1 _ rfl; rw [← Nat.add_assoc] at h9; exact h9)
      have f_2 : wo.cell? ⟨b1, o1 + l * 3 + 2, none⟩ = some (.slice tb2 tn2 tc2) := (hb2.cell (p := ⟨b1, o1 + l * 3 + 2, none⟩) f_lt).trans (by have h9 := hc 2 _ rfl; rw [← Nat.add_assoc] at h9; exact h9)
      have HA1 : Hid (dbFrom none x = (v && (ltB s2 s && dbFrom (prevN x (l + 1 + 1)) (x.drop (l + 1 + 1))))) := Lib.hid (by rw [HA.out, HP.out, HP2.out])
      clear hx hy HA HP HP2 t1 hc hr g2 hj0
      obtain ⟨q, hq⟩ : ∃ q, q = ltB s2 s := ⟨_, rfl⟩
      rw [← hq] at HA1
      have hq2 : Op.bytesLess s2.toList s.toList = q := hq.symm
      clear hq
      have hi63 : IntKind.i64.wrap (l : Int) = (l : Int) := IntWalk.i64_in _ (by omega)
      cases v with
      | false =>
        have HE := Lib.hid (validDb_no (db := x) (by rw [HA1.out]; rfl))
        go_wp2_with fail
        have rg_b_0 := cell_regrown b_0
        have rg_e_0 := cell_regrown e_0
        have rg_e_1 := cell_regrown e_1
        have rg_e_2 := cell_regrown e_2
        have rg_f_0 := cell_regrown f_0
        have rg_f_1 := cell_regrown f_1
        have rg_f_2 := cell_regrown f_2
        refine wp_region_quiet_below (by kernel_rfl) (by kernel_rfl) ?_
        repeat (go_big_quiet_step ((first | (go_at_call 27; exact Calls.regrown_of (HC.out _ (on hb2 (below_regrown _ _ _)))))))
        refine wpQuiet_nil ?_
        intro w7 hw7
        have z7 : Below wo.heap.size wo w7 := by obtain ⟨p9, e9⟩ := hw7; rw [e9]; exact below_regrown _ _ _
        clear hw7 rg_b_0 rg_e_0 rg_e_1 rg_e_2 rg_f_0 rg_f_1 rg_f_2
        have s8 := z7.size
        have hb8 := on hb2 z7
        replace b_0 := (z7.cell (p := ⟨w.heap.size, 0, none⟩) (by simp only []; omega)).trans b_0
        replace hlc := on hlc z7
        replace e_0 := (z7.cell (p := ⟨b1, o1 + (l + 1) * 3, none⟩) (by simp only []; omega)).trans e_0
        replace e_1 := (z7.cell (p := ⟨b1, o1 + (l + 1) * 3 + 1, none⟩) (by simp only []; omega)).trans e_1
        replace e_2 := (z7.cell (p := ⟨b1, o1 + (l + 1) * 3 + 2, none⟩) (by simp only []; omega)).trans e_2
        replace f_0 := (z7.cell (p := ⟨b1, o1 + l * 3, none⟩) (by simp only []; omega)).trans f_0
        replace f_1 := (z7.cell (p := ⟨b1, o1 + l * 3 + 1, none⟩) (by simp only []; omega)).trans f_1
        replace f_2 := (z7.cell (p := ⟨b1, o1 + l * 3 + 2, none⟩) (by simp only []; omega)).trans f_2
        clear hi63
        go_wp2_with fail
        go_ret
        exact ⟨ret_bool HE.out.symm, hb8⟩
      | true =>
        cases q with
        | false =>
          have HE := Lib.hid (validDb_no (db := x) (by rw [HA1.out]; rfl))
          go_wp2_with fail
          have rg_b_0 := cell_regrown b_0
          have rg_e_0 := cell_regrown e_0
          have rg_e_1 := cell_regrown e_1
          have rg_e_2 := cell_regrown e_2
          have rg_f_0 := cell_regrown f_0
          have rg_f_1 := cell_regrown f_1
          have rg_f_2 := cell_regrown f_2
          refine wp_region_quiet_below (by kernel_rfl) (by kernel_rfl) ?_
          repeat (go_big_quiet_step ((first | (go_at_call 27; exact Calls.regrown_of (HC.out _ (on hb2 (below_regrown _ _ _)))))))
          refine wpQuiet_nil ?_
          intro w9 hw9
          have z9 : Below wo.heap.size wo w9 := by obtain ⟨p9, e9⟩ := hw9; rw [e9]; exact below_regrown _ _ _
          clear hw9 rg_b_0 rg_e_0 rg_e_1 rg_e_2 rg_f_0 rg_f_1 rg_f_2
          have s10 := z9.size
          have hb10 := on hb2 z9
          replace b_0 := (z9.cell (p := ⟨w.heap.size, 0, none⟩) (by simp only []; omega)).trans b_0
          replace hlc := on hlc z9
          replace e_0 := (z9.cell (p := ⟨b1, o1 + (l + 1) * 3, none⟩) (by simp only []; omega)).trans e_0
          replace e_1 := (z9.cell (p := ⟨b1, o1 + (l + 1) * 3 + 1, none⟩) (by simp only []; omega)).trans e_1
          replace e_2 := (z9.cell (p := ⟨b1, o1 + (l + 1) * 3 + 2, none⟩) (by simp only []; omega)).trans e_2
          replace f_0 := (z9.cell (p := ⟨b1, o1 + l * 3, none⟩) (by simp only []; omega)).trans f_0
          replace f_1 := (z9.cell (p := ⟨b1, o1 + l * 3 + 1, none⟩) (by simp only []; omega)).trans f_1
          replace f_2 := (z9.cell (p := ⟨b1, o1 + l * 3 + 2, none⟩) (by simp only []; omega)).trans f_2
          clear hi63
          go_wp2_with fail
          go_ret
          exact ⟨ret_bool HE.out.symm, hb10⟩
        | true =>
          have HE : Hid (dbFrom none x = dbFrom (prevN x (l + 1 + 1)) (x.drop (l + 1 + 1))) := Lib.hid (by rw [HA1.out]; rfl)
          go_wp2_with fail
          have rg_b_0 := cell_regrown b_0
          have rg_e_0 := cell_regrown e_0
          have rg_e_1 := cell_regrown e_1
          have rg_e_2 := cell_regrown e_2
          have rg_f_0 := cell_regrown f_0
          have rg_f_1 := cell_regrown f_1
          have rg_f_2 := cell_regrown f_2
          refine wp_region_quiet_below (by kernel_rfl) (by kernel_rfl) ?_
          repeat (go_big_quiet_step ((first | (go_at_call 27; exact Calls.regrown_of (HC.out _ (on hb2 (below_regrown _ _ _)))))))
          refine wpQuiet_nil ?_
          intro w11 hw11
          have z11 : Below wo.heap.size wo w11 := by obtain ⟨p9, e9⟩ := hw11; rw [e9]; exact below_regrown _ _ _
          clear hw11 rg_b_0 rg_e_0 rg_e_1 rg_e_2 rg_f_0 rg_f_1 rg_f_2
          have s12 := z11.size
          have hb12 := on hb2 z11
          replace b_0 := (z11.cell (p := ⟨w.heap.size, 0, none⟩) (by simp only []; omega)).trans b_0
          replace hlc := on hlc z11
          replace e_0 := (z11.cell (p := ⟨b1, o1 + (l + 1) * 3, none⟩) (by simp only []; omega)).trans e_0
          replace e_1 := (z11.cell (p := ⟨b1, o1 + (l + 1) * 3 + 1, none⟩) (by simp only []; omega)).trans e_1
          replace e_2 := (z11.cell (p := ⟨b1, o1 + (l + 1) * 3 + 2, none⟩) (by simp only []; omega)).trans e_2
          replace f_0 := (z11.cell (p := ⟨b1, o1 + l * 3, none⟩) (by simp only []; omega)).trans f_0
          replace f_1 := (z11.cell (p := ⟨b1, o1 + l * 3 + 1, none⟩) (by simp only []; omega)).trans f_1
          replace f_2 := (z11.cell (p := ⟨b1, o1 + l * 3 + 2, none⟩) (by simp only []; omega)).trans f_2
          clear hi63
          go_wp2_with fail
          go_roundw
          case rel => exact ⟨l + 1 + 1, by omega, by go_num, HE.out, hlc⟩
          case measure => simp [intOf]; omega
    · have HE := Lib.hid (validDb_len HL.out (hE.out.trans (dbFrom_end (by have := HL.out; omega))))
      clear t1 hl hE HV
      go_wp2_with fail
      go_ret
      exact ⟨ret_bool (by rw [HE.out]), hb2⟩

end Go.Proofs.Ytbkoddikfpkocaa

/- Contracts: tables looked up. -/
namespace Go.Proofs.Ytbkoddikfpkocaa
open Go.RowKit Go.Sort
set_option linter.unusedVariables false
set_option linter.unusedSimpArgs false
set_option synthInstance.maxSize 2000
set_option synthInstance.maxHeartbeats 400000

/-- The place of the first table of a name, from place j on; -1 if there is none. -/
def idxFrom (name : ByteArray) (j : Nat) : List DT → Int
  | [] => -1
  | t :: r => if t.1 = name then (j : Int) else idxFrom name (j + 1) r
/-- The table of a name. -/
def look (db : DDb) (name : ByteArray) : Option DT := if validDb db then db.find? (fun t => decide (t.1 = name)) else none
theorem idxFrom_yes {name : ByteArray} {j : Nat} {xs : List DT} {t : DT} (h : xs[j]? = some t) (hn : t.1 = name) : idxFrom name j (xs.drop j) = (j : Int) := by
  rw [drop_at h, idxFrom, if_pos hn]
theorem idxFrom_no {name : ByteArray} {j : Nat} {xs : List DT} {t : DT} (h : xs[j]? = some t) (hn : t.1 ≠ name) : idxFrom name j (xs.drop j) = idxFrom name (j + 1) (xs.drop (j + 1)) := by
  rw [drop_at h, idxFrom, if_neg hn]
theorem idxFrom_end {name : ByteArray} {j : Nat} {xs : List DT} (h : xs.length ≤ j) : idxFrom name j (xs.drop j) = -1 := by
  rw [List.drop_eq_nil_of_le h]; rfl
/-- What the place says. -/
theorem idx_find {name : ByteArray} : ∀ {xs : List DT} {j : Nat}, (idxFrom name j xs = -1 ∧ xs.find? (fun t => decide (t.1 = name)) = none) ∨ ∃ k t, idxFrom name j xs = ((j + k : Nat) : Int) ∧ xs[k]? = some t ∧ xs.find? (fun t => decide (t.1 = name)) = some t
  | [], j => .inl ⟨rfl, rfl⟩
  | t :: r, j => by
    by_cases h : t.1 = name
    · exact .inr ⟨0, t, by simp [idxFrom, h], rfl, by simp [h]⟩
    · rcases @idx_find name r (j + 1) with ⟨h1, h2⟩ | ⟨k, u, h1, h2, h3⟩
      · exact .inl ⟨by rw [idxFrom, if_neg h]; exact h1, by simp [h, h2]⟩
      · exact .inr ⟨k + 1, u, by rw [idxFrom, if_neg h, h1]; omega, by simpa using h2, by simp [h, h3]⟩
theorem dbFrom_mem : ∀ {xs : List DT} {p : Option ByteArray}, dbFrom p xs = true → ∀ t ∈ xs, validT t = true
  | [], _, _, t, ht => by cases ht
  | x :: r, p, h, t, ht => by
    simp only [dbFrom, Bool.and_eq_true] at h
    rcases List.mem_cons.1 ht with rfl | ht
    · exact h.1
    · exact dbFrom_mem h.2.2 t ht
theorem rowsB_mem {n : Int} {rows : List (List Int)} (h : rowsB n rows = true) : ∀ r ∈ rows, (r.length : Int) = n ∧ ∀ v ∈ r, 0 ≤ v ∧ v ≤ 9 := by
  intro r hr
  have h1 := (List.all_eq_true.1 h) r hr
  simp only [rowB, Bool.and_eq_true, decide_eq_true_eq, List.all_eq_true, betw] at h1
  exact ⟨h1.2, fun v hv => h1.1 v hv⟩
/-- What a valid table is known to hold. -/
structure TOk (t : DT) : Prop where
  name : nameB t.1 = true
  ar : 1 ≤ t.2.1 ∧ t.2.1 ≤ 3
  len : t.2.2.length ≤ 8
  row : ∀ r ∈ t.2.2, (r.length : Int) = t.2.1 ∧ ∀ v ∈ r, 0 ≤ v ∧ v ≤ 9
  asc : ascB t.2.2 = true
theorem TOk.of {t : DT} (h : validT t = true) : TOk t := by
  simp only [validT, Bool.and_eq_true, decide_eq_true_eq, betw] at h
  exact ⟨h.1, h.2.1, h.2.2.1, rowsB_mem h.2.2.2.1, h.2.2.2.2⟩
theorem sumBy_bound {α : Type} {f : α → Nat} {B : Nat} : ∀ {xs : List α}, (∀ x ∈ xs, f x ≤ B) → sumBy f xs ≤ xs.length * B
  | [], _ => by simp [sumBy]
  | x :: t, h => by
    have h1 := h x (by simp)
    have h2 := sumBy_bound (fun y hy => h y (List.mem_cons_of_mem x hy))
    simp only [sumBy, List.map_cons, List.sum_cons, List.length_cons, Nat.add_mul, Nat.one_mul] at h2 ⊢
    omega
theorem TOk.bulk {t : DT} (h : TOk t) : bulk_T t ≤ 100 := by
  have h1 : t.1.size = 1 := by have := h.name; simp only [nameB, Bool.and_eq_true, decide_eq_true_eq] at this; exact this.1
  have h2 := h.ar
  have h3 := h.len
  have h4 : sumBy bulk_I t.2.2 ≤ t.2.2.length * 3 := sumBy_bound (fun r hr => by have := (h.row r hr).1; unfold bulk_I; omega)
  have h5 := Nat.mul_le_mul_right 3 h3
  unfold bulk_T bulk_II
  omega
theorem look_ok {db : DDb} {name : ByteArray} {t : DT} (h : look db name = some t) : TOk t := by
  unfold look at h
  split at h
  · rename_i hv
    simp only [validDb, Bool.and_eq_true] at hv
    exact TOk.of (dbFrom_mem hv.1 t (List.mem_of_find?_eq_some h))
  · cases h
theorem look_name {db : DDb} {name : ByteArray} {t : DT} (h : look db name = some t) : t.1 = name := by
  unfold look at h
  split at h
  · have := List.find?_some h; simpa using this
  · cases h

set_option maxHeartbeats 400000 in
theorem lookFn_any (cs : List Value) (t : DT) (name : ByteArray) (p : Addr) (w : World) (h : rT.rep w cs t) (hp : w.cell? p = some (.string name)) (hps : p.spot = none) :
    Calls Try.prog 195 #[.agg cs.toArray, .pointer (some p)] w fun e w' => e = .returned (.bool (decide (t.1 = name))) ∧ Below w.heap.size w w' := by
  obtain ⟨ub, un, uc, rfl, hs, hi, g1⟩ := rT_open h
  obtain ⟨pb, po, ps⟩ := p
  simp only at hps
  subst hps
  have hlt : pb < w.heap.size := cell_lt hp
  clear h g1
  have hb0 : Below w.heap.size w w := Below.refl _ _
  have c0 : w.cell? ⟨pb, po, none⟩ = some (.string name) := hp
  clear hp
  go_enter Try.func195, Try.ntmps195
  obtain ⟨w1, hw1⟩ : ∃ W, W = w.alloc (.cells #[.string t.1, .int .i64 t.2.1, .slice ub un uc] 34) := ⟨_, rfl⟩
  have z1 : Below w.heap.size w w1 := by rw [hw1]; exact (Below.refl _ _).alloc (Nat.le_refl _) _
  have s1 : w1.heap.size = w.heap.size + 1 := by rw [hw1]; simp
  have hb1 := on hb0 z1
  have old1_c0 := c0
  replace c0 := (z1.cell (p := ⟨pb, po, none⟩) (by simp only []; omega)).trans c0
  have b_0 : w1.cell? ⟨w.heap.size, 0, none⟩ = some (.string t.1) := by rw [hw1]; exact box_cell (Below.refl _ _) rfl
  have b_1 : w1.cell? ⟨w.heap.size, 1, none⟩ = some (.int .i64 t.2.1) := by rw [hw1]; exact box_cell (Below.refl _ _) rfl
  have b_2 : w1.cell? ⟨w.heap.size, 2, none⟩ = some (.slice ub un uc) := by rw [hw1]; exact box_cell (Below.refl _ _) rfl
  have raw1_c0 := c0
  have raw1_b_0 := b_0
  have raw1_b_1 := b_1
  have raw1_b_2 := b_2
  rw [hw1] at raw1_c0 raw1_b_0 raw1_b_1 raw1_b_2
  by_cases e : t.1 = name
  · have HE := Lib.hid (show (t.1.toList == name.toList) = true by rw [e]; simp)
    have HD := Lib.hid (decide_eq_true e)
    clear e
    have hq := HE.out
    go_wp2_with fail
    go_ret
    exact ⟨ret_bool HD.out.symm, by first | exact hb1 | (rw [hw1] at hb1; exact hb1)⟩
  · have hq := bytes_ne e
    have HD := Lib.hid (decide_eq_false e)
    clear e
    go_wp2_with fail
    go_ret
    exact ⟨ret_bool HD.out.symm, by first | exact hb1 | (rw [hw1] at hb1; exact hb1)⟩

end Go.Proofs.Ytbkoddikfpkocaa

/- Contracts: a row put among rows, by the reference (l4Put). -/
namespace Go.Proofs.Ytbkoddikfpkocaa
open Go.RowKit
set_option linter.unusedVariables false
set_option linter.unusedSimpArgs false
set_option synthInstance.maxSize 2000
set_option synthInstance.maxHeartbeats 400000

theorem putL_at {r x : List Int} {rows : List (List Int)} {j : Nat} (p : Bool) (h : rows[j]? = some x) : putL r p (rows.drop j) = if decide (0 < cmpRows x r) && !(p || decide (cmpRows x r = 0)) then r :: x :: putL r true (rows.drop (j + 1)) else x :: putL r (p || decide (cmpRows x r = 0)) (rows.drop (j + 1)) := by
  rw [drop_at h]; rfl
theorem putL_end {r : List Int} {rows : List (List Int)} {j : Nat} (p : Bool) (h : rows.length ≤ j) : putL r p (rows.drop j) = if p then [] else [r] := by
  rw [List.drop_eq_nil_of_le h]; rfl

set_option maxRecDepth 100000 in
set_option maxHeartbeats 4000000 in
theorem l4Put_any (u v : Value) (rows : List (List Int)) (r : List Int) (w : World) (h : rII.rep w [u] rows) (h' : rI.rep w [v] r) (hn1 : rows.length ≤ 1000000) (hrows : ∀ (j : Nat) (x : List Int), rows[j]? = some x → x.length ≤ 1000000) (hr1 : r.length ≤ 1000000) :
    Calls Try.prog 135 #[u, v] w fun e w' => ∃ ub un uc, e = .returned (.slice ub un uc) ∧ Own oII w.heap.size w'.heap.size w' [.slice ub un uc] (putL r false rows) ∧ Below w.heap.size w w' := by
  obtain ⟨a, cap, rfl, _, _, t0⟩ := rS_open h
  obtain ⟨b, cap2, rfl, _, _, ir⟩ := rI_open h'
  clear h h'
  obtain ⟨n, hl⟩ : ∃ n, rows.length = n := ⟨_, rfl⟩
  obtain ⟨m, hm⟩ : ∃ m, r.length = m := ⟨_, rfl⟩
  rw [hl] at t0 hn1 ⊢
  rw [hm] at ir hr1 ⊢
  have HR := Lib.hid hrows
  have HV : Hid (putL r false rows = [] ++ putL r false (rows.drop 0)) := Lib.hid (by simp)
  have IR := Lib.hid (fun W (hW : Below w.heap.size w W) => ir.below hW)
  clear hrows ir
  have hb0 : Below w.heap.size w w := Below.refl _ _
  go_enter Try.func135, Try.ntmps135
  obtain ⟨w1, hw1⟩ : ∃ W, W = w.alloc (.cells #[] 24) := ⟨_, rfl⟩
  have z1 : Below w.heap.size w w1 := by rw [hw1]; exact (Below.refl _ _).alloc (Nat.le_refl _) _
  have s1 : w1.heap.size = w.heap.size + 1 := by rw [hw1]; simp
  have hb1 := on hb0 z1
  have ho : ∀ S, Acc 24 oI w.heap.size S w1.heap.size w1 (.slice (some ⟨w.heap.size, 0, none⟩) 0 0) [] := fun S => by rw [hw1]; exact Acc.empty (by omega) (by first | (simp; done) | (simp; omega))
  go_wp2_with fail
  rw [← hw1]
  clear hw1
  go_loopw [5, 6, 7] (fun v p k wr => ∃ (j : Nat) (q : Bool) (out : List (List Int)), j ≤ n ∧ k = .int .i64 j ∧ p = .bool q ∧ Hid (putL r false rows = out ++ putL r q (rows.drop j)) ∧ out.length ≤ 2 * j ∧ Acc 24 oI w.heap.size w1.heap.size wr.heap.size wr v out ∧ Turn w.heap.size (w.heap.size + 1) w1 wr) (fun _ _ k _ => n - (intOf k).toNat)
  case atStart => exact ⟨0, false, [], Nat.zero_le _, rfl, rfl, HV.out, Nat.zero_le _, (ho _).wide (Nat.le_refl _) (by omega), turn_refl _ _ _⟩
  case round =>
    obtain ⟨j, q, out, hj, rfl, rfl, hE, hol, hacc, hdr⟩ := hrel
    have hlc := hdr
    have hE0 : w1.heap.size = w.heap.size + 1 := by omega
    clear ho
    have s2 := hdr.size
    have hb2 := hb1.trans ((hdr.below (by omega)).mono (by omega))
    by_cases hlt : j < n
    · obtain ⟨b0, o0, r1, m1, q1, x, rfl, hc, hx, hi, hq1, hq2⟩ := t0.row hlt
      have hclt : b0 < w.heap.size := cell_lt hc
      have c0 : wr.cell? ⟨b0, o0 + j, none⟩ = some (.slice r1 m1 q1) := (hb2.cell (p := ⟨b0, o0 + j, none⟩) hclt).trans hc
      have HX := Lib.hid (fun W (hW : Below w.heap.size w W) => hi.below hW)
      have hxl := HR.out j x hx.out
      have hm1 : m1 ≤ 1000000 := by rw [← hi.len]; exact hxl
      have HP := Lib.hid (putL_at (r := r) q hx.out)
      have HC := Lib.hid (fun W (hW : Below w.heap.size w W) => cmp_spec r1 b m1 m q1 cap2 x r W (hi.below hW) (IR.out W hW))
      obtain ⟨d, hd⟩ : ∃ d, d = cmpRows x r := ⟨_, rfl⟩
      have hrng : d = -1 ∨ d = 0 ∨ d = 1 := by rw [hd]; exact cmpRows_rng x r
      have HP2 : Hid (putL r q (rows.drop j) = if decide (0 < d) && !(q || decide (d = 0)) then r :: x :: putL r true (rows.drop (j + 1)) else x :: putL r (q || decide (d = 0)) (rows.drop (j + 1))) := Lib.hid (by rw [hd]; exact HP.out)
      have HC2 : Hid (∀ W, Below w.heap.size w W → Calls Try.prog 104 #[.slice r1 m1 q1, .slice b m cap2] W fun e w' => e = .returned (.int .i64 d) ∧ Drew W w') := Lib.hid (by rw [hd]; exact HC.out)
      have HC0 := Lib.hid hc
      clear hc hx hi hl hE0 HP HC hd
      rcases hrng with rfl | rfl | rfl
      all_goals cases q
      case inl.false =>
        have HE : Hid (putL r false rows = (out ++ [x]) ++ putL r false (rows.drop (j + 1))) := Lib.hid (by rw [hE.out, HP2.out]; simp)
        clear HP2 hE
        go_wp2_with fail
        refine (HC2.out _ hb2).mono ?_
        rintro e w3 ⟨rfl, z3⟩
        replace z3 : Below wr.heap.size wr w3 := z3.below _
        have s4 := z3.size
        have hb4 := on hb2 z3
        replace hlc := hlc.trans (turn_below z3 (Nat.le_refl _))
        replace hacc := hacc.below z3 (by omega)
        replace c0 := (z3.cell (p := ⟨b0, o0 + j, none⟩) (by simp only []; omega)).trans c0
        have i2 := (HX.out _ hb4).below ((Below.refl _ _).alloc (Nat.le_refl _) (.cells #[] 3))
        have c0a := cell_ad (o := .cells #[] 3) c0
        go_wp2_with (first | (at_builtin; refine wpList_copyI _ _ _ _ _ _ x rfl i2 (by omega) rfl rfl rfl rfl ?_; intro vc wc own1 zc szc; obtain ⟨ac, cc, rfl, _⟩ := own_form own1.row; clear i2; replace hacc := hacc.below zc (by omega); replace hlc := hlc.trans (turn_below zc (Nat.le_refl _)); have sc := zc.size; have oy := own1.own; have hone : ∀ z ∈ [Value.slice ac m1 cc], z.oneCell' = true := (by intro z hz; simp at hz; subst hz; rfl)) | (at_builtin; refine wpList_acc Try.underlying32 infoI rfl (by decide) (by decide) rfl _ _ _ _ [.slice ac m1 cc] x hacc oy hone (by omega) (by omega) (by omega) (by omega) hlc rfl (by omega) (by omega) rfl rfl rfl rfl rfl ?_; intro v1 w1 hacc1 ht1 hsz1; obtain ⟨ad, nd, cd, rfl⟩ := hacc1.form3))
        go_roundw
        case rel => exact ⟨j + 1, false, out ++ [x], by omega, by go_num, rfl, HE.out, by rw [List.length_append]; simp; omega, hacc1, ht1⟩
        case measure => simp [intOf]; omega
      case inl.true =>
        have HE : Hid (putL r false rows = (out ++ [x]) ++ putL r true (rows.drop (j + 1))) := Lib.hid (by rw [hE.out, HP2.out]; simp)
        clear HP2 hE
        go_wp2_with fail
        refine (HC2.out _ hb2).mono ?_
        rintro e w5 ⟨rfl, z5⟩
        replace z5 : Below wr.heap.size wr w5 := z5.below _
        have s6 := z5.size
        have hb6 := on hb2 z5
        replace hlc := hlc.trans (turn_below z5 (Nat.le_refl _))
        replace hacc := hacc.below z5 (by omega)
        replace c0 := (z5.cell (p := ⟨b0, o0 + j, none⟩) (by simp only []; omega)).trans c0
        have i2 := (HX.out _ hb6).below ((Below.refl _ _).alloc (Nat.le_refl _) (.cells #[] 3))
        have c0a := cell_ad (o := .cells #[] 3) c0
        go_wp2_with (first | (at_builtin; refine wpList_copyI _ _ _ _ _ _ x rfl i2 (by omega) rfl rfl rfl rfl ?_; intro vc wc own1 zc szc; obtain ⟨ac, cc, rfl, _⟩ := own_form own1.row; clear i2; replace hacc := hacc.below zc (by omega); replace hlc := hlc.trans (turn_below zc (Nat.le_refl _)); have sc := zc.size; have oy := own1.own; have hone : ∀ z ∈ [Value.slice ac m1 cc], z.oneCell' = true := (by intro z hz; simp at hz; subst hz; rfl)) | (at_builtin; refine wpList_acc Try.underlying32 infoI rfl (by decide) (by decide) rfl _ _ _ _ [.slice ac m1 cc] x hacc oy hone (by omega) (by omega) (by omega) (by omega) hlc rfl (by omega) (by omega) rfl rfl rfl rfl rfl ?_; intro v1 w1 hacc1 ht1 hsz1; obtain ⟨ad, nd, cd, rfl⟩ := hacc1.form3))
        go_roundw
        case rel => exact ⟨j + 1, true, out ++ [x], by omega, by go_num, rfl, HE.out, by rw [List.length_append]; simp; omega, hacc1, ht1⟩
        case measure => simp [intOf]; omega
      case inr.inl.false =>
        have HE : Hid (putL r false rows = (out ++ [x]) ++ putL r true (rows.drop (j + 1))) := Lib.hid (by rw [hE.out, HP2.out]; simp)
        clear HP2 hE
        go_wp2_with fail
        refine (HC2.out _ hb2).mono ?_
        rintro e w7 ⟨rfl, z7⟩
        replace z7 : Below wr.heap.size wr w7 := z7.below _
        have s8 := z7.size
        have hb8 := on hb2 z7
        replace hlc := hlc.trans (turn_below z7 (Nat.le_refl _))
        replace hacc := hacc.below z7 (by omega)
        replace c0 := (z7.cell (p := ⟨b0, o0 + j, none⟩) (by simp only []; omega)).trans c0
        have i2 := (HX.out _ hb8).below ((Below.refl _ _).alloc (Nat.le_refl _) (.cells #[] 3))
        have c0a := cell_ad (o := .cells #[] 3) c0
        go_wp2_with (first | (at_builtin; refine wpList_copyI _ _ _ _ _ _ x rfl i2 (by omega) rfl rfl rfl rfl ?_; intro vc wc own1 zc szc; obtain ⟨ac, cc, rfl, _⟩ := own_form own1.row; clear i2; replace hacc := hacc.below zc (by omega); replace hlc := hlc.trans (turn_below zc (Nat.le_refl _)); have sc := zc.size; have oy := own1.own; have hone : ∀ z ∈ [Value.slice ac m1 cc], z.oneCell' = true := (by intro z hz; simp at hz; subst hz; rfl)) | (at_builtin; refine wpList_acc Try.underlying32 infoI rfl (by decide) (by decide) rfl _ _ _ _ [.slice ac m1 cc] x hacc oy hone (by omega) (by omega) (by omega) (by omega) hlc rfl (by omega) (by omega) rfl rfl rfl rfl rfl ?_; intro v1 w1 hacc1 ht1 hsz1; obtain ⟨ad, nd, cd, rfl⟩ := hacc1.form3))
        go_roundw
        case rel => exact ⟨j + 1, true, out ++ [x], by omega, by go_num, rfl, HE.out, by rw [List.length_append]; simp; omega, hacc1, ht1⟩
        case measure => simp [intOf]; omega
      case inr.inl.true =>
        have HE : Hid (putL r false rows = (out ++ [x]) ++ putL r true (rows.drop (j + 1))) := Lib.hid (by rw [hE.out, HP2.out]; simp)
        clear HP2 hE
        go_wp2_with fail
        refine (HC2.out _ hb2).mono ?_
        rintro e w9 ⟨rfl, z9⟩
        replace z9 : Below wr.heap.size wr w9 := z9.below _
        have s10 := z9.size
        have hb10 := on hb2 z9
        replace hlc := hlc.trans (turn_below z9 (Nat.le_refl _))
        replace hacc := hacc.below z9 (by omega)
        replace c0 := (z9.cell (p := ⟨b0, o0 + j, none⟩) (by simp only []; omega)).trans c0
        have i2 := (HX.out _ hb10).below ((Below.refl _ _).alloc (Nat.le_refl _) (.cells #[] 3))
        have c0a := cell_ad (o := .cells #[] 3) c0
        go_wp2_with (first | (at_builtin; refine wpList_copyI _ _ _ _ _ _ x rfl i2 (by omega) rfl rfl rfl rfl ?_; intro vc wc own1 zc szc; obtain ⟨ac, cc, rfl, _⟩ := own_form own1.row; clear i2; replace hacc := hacc.below zc (by omega); replace hlc := hlc.trans (turn_below zc (Nat.le_refl _)); have sc := zc.size; have oy := own1.own; have hone : ∀ z ∈ [Value.slice ac m1 cc], z.oneCell' = true := (by intro z hz; simp at hz; subst hz; rfl)) | (at_builtin; refine wpList_acc Try.underlying32 infoI rfl (by decide) (by decide) rfl _ _ _ _ [.slice ac m1 cc] x hacc oy hone (by omega) (by omega) (by omega) (by omega) hlc rfl (by omega) (by omega) rfl rfl rfl rfl rfl ?_; intro v1 w1 hacc1 ht1 hsz1; obtain ⟨ad, nd, cd, rfl⟩ := hacc1.form3))
        go_roundw
        case rel => exact ⟨j + 1, true, out ++ [x], by omega, by go_num, rfl, HE.out, by rw [List.length_append]; simp; omega, hacc1, ht1⟩
        case measure => simp [intOf]; omega
      case inr.inr.true =>
        have HE : Hid (putL r false rows = (out ++ [x]) ++ putL r true (rows.drop (j + 1))) := Lib.hid (by rw [hE.out, HP2.out]; simp)
        clear HP2 hE
        go_wp2_with fail
        refine (HC2.out _ hb2).mono ?_
        rintro e w11 ⟨rfl, z11⟩
        replace z11 : Below wr.heap.size wr w11 := z11.below _
        have s12 := z11.size
        have hb12 := on hb2 z11
        replace hlc := hlc.trans (turn_below z11 (Nat.le_refl _))
        replace hacc := hacc.below z11 (by omega)
        replace c0 := (z11.cell (p := ⟨b0, o0 + j, none⟩) (by simp only []; omega)).trans c0
        have i2 := (HX.out _ hb12).below ((Below.refl _ _).alloc (Nat.le_refl _) (.cells #[] 3))
        have c0a := cell_ad (o := .cells #[] 3) c0
        go_wp2_with (first | (at_builtin; refine wpList_copyI _ _ _ _ _ _ x rfl i2 (by omega) rfl rfl rfl rfl ?_; intro vc wc own1 zc szc; obtain ⟨ac, cc, rfl, _⟩ := own_form own1.row; clear i2; replace hacc := hacc.below zc (by omega); replace hlc := hlc.trans (turn_below zc (Nat.le_refl _)); have sc := zc.size; have oy := own1.own; have hone : ∀ z ∈ [Value.slice ac m1 cc], z.oneCell' = true := (by intro z hz; simp at hz; subst hz; rfl)) | (at_builtin; refine wpList_acc Try.underlying32 infoI rfl (by decide) (by decide) rfl _ _ _ _ [.slice ac m1 cc] x hacc oy hone (by omega) (by omega) (by omega) (by omega) hlc rfl (by omega) (by omega) rfl rfl rfl rfl rfl ?_; intro v1 w1 hacc1 ht1 hsz1; obtain ⟨ad, nd, cd, rfl⟩ := hacc1.form3))
        go_roundw
        case rel => exact ⟨j + 1, true, out ++ [x], by omega, by go_num, rfl, HE.out, by rw [List.length_append]; simp; omega, hacc1, ht1⟩
        case measure => simp [intOf]; omega
      -- the row goes in ahead of this one
      case inr.inr.false =>
        have HE : Hid (putL r false rows = ((out ++ [r]) ++ [x]) ++ putL r true (rows.drop (j + 1))) := Lib.hid (by rw [hE.out, HP2.out]; simp)
        clear HP2 hE
        go_wp2_with fail
        refine (HC2.out _ hb2).mono ?_
        rintro e w13 ⟨rfl, z13⟩
        replace z13 : Below wr.heap.size wr w13 := z13.below _
        have s14 := z13.size
        have hb14 := on hb2 z13
        replace hlc := hlc.trans (turn_below z13 (Nat.le_refl _))
        replace hacc := hacc.below z13 (by omega)
        replace c0 := (z13.cell (p := ⟨b0, o0 + j, none⟩) (by simp only []; omega)).trans c0
        have i2 := (IR.out _ hb14).below ((Below.refl _ _).alloc (Nat.le_refl _) (.cells #[] 3))
        have hol1 : (out ++ [r]).length ≤ 2 * j + 1 := by rw [List.length_append]; simp; omega
        go_wp2_with (first | (at_builtin; refine wpList_copyI _ _ _ _ _ _ r rfl i2 (by omega) rfl rfl rfl rfl ?_; intro vc wc own1 zc szc; obtain ⟨ac, cc, rfl, _⟩ := own_form own1.row; clear i2; replace hacc := hacc.below zc (by omega); replace hlc := hlc.trans (turn_below zc (Nat.le_refl _)); have sc := zc.size; have oy := own1.own; have hone : ∀ z ∈ [Value.slice ac m cc], z.oneCell' = true := (by intro z hz; simp at hz; subst hz; rfl); have c0c := (zc.cell (p := ⟨b0, o0 + j, none⟩) (by simp only []; omega)).trans c0) | (at_builtin; refine wpList_acc Try.underlying32 infoI rfl (by decide) (by decide) rfl _ _ _ _ [.slice ac m cc] r hacc oy hone (by omega) (by omega) (by omega) (by omega) hlc rfl (by omega) (by omega) rfl rfl rfl rfl rfl ?_; intro v1 wd hacc1 ht1 hsz1; obtain ⟨ad, nd, cd, rfl⟩ := hacc1.form3; have hbd := hb1.trans ((ht1.below (by omega)).mono (by omega)); have sd := ht1.size; have c1 := cell_ad (o := .cells #[] 3) ((hbd.cell (p := ⟨b0, o0 + j, none⟩) hclt).trans HC0.out); have i3 := (HX.out _ hbd).below ((Below.refl _ _).alloc (Nat.le_refl _) (.cells #[] 3)); clear hacc hlc oy hone own1 zc; have hacc := hacc1; have hlc := ht1; clear hacc1 ht1) | (at_builtin; refine wpList_copyI _ _ _ _ _ _ x rfl i3 (by omega) rfl rfl rfl rfl ?_; intro vc wc own1 zc szc; obtain ⟨ac, cc, rfl, _⟩ := own_form own1.row; clear i3; replace hacc := hacc.below zc (by omega); replace hlc := hlc.trans (turn_below zc (Nat.le_refl _)); have sc := zc.size; have oy := own1.own; have hone : ∀ z ∈ [Value.slice ac m1 cc], z.oneCell' = true := (by intro z hz; simp at hz; subst hz; rfl)) | (at_builtin; refine wpList_acc Try.underlying32 infoI rfl (by decide) (by decide) rfl _ _ _ _ [.slice ac m1 cc] x hacc oy hone (by omega) (by omega) (by omega) (by omega) hlc rfl (by omega) (by omega) rfl rfl rfl rfl rfl ?_; intro v1 w1 hacc1 ht1 hsz1; obtain ⟨ad, nd, cd, rfl⟩ := hacc1.form3))
        go_roundw
        case rel => exact ⟨j + 1, true, out ++ [r] ++ [x], by omega, by go_num, rfl, HE.out, by rw [List.length_append]; simp only [List.length_cons, List.length_nil]; omega, hacc1, ht1⟩
        case measure => simp [intOf]; omega
    · have hjn : j = n := by omega
      have HE : Hid (putL r false rows = out ++ if q then [] else [r]) := Lib.hid (by rw [hE.out, putL_end q (by omega)])
      clear hE
      cases q with
      | true =>
        obtain ⟨ad, nd, cd, rfl⟩ := hacc.form3
        have HO := Lib.hid (hacc.own (B := w.heap.size) (by omega) (by omega) (Nat.le_refl _))
        clear hacc hl
        go_wp2_with fail
        go_ret
        exact ⟨_, _, _, rfl, by rw [HE.out, if_pos trivial, List.append_nil]; exact HO.out, hb2⟩
      | false =>
        have i2 := (IR.out _ hb2).below ((Below.refl _ _).alloc (Nat.le_refl _) (.cells #[] 3))
        clear hl
        go_wp2_with (first | (at_builtin; refine wpList_copyI _ _ _ _ _ _ r rfl i2 (by omega) rfl rfl rfl rfl ?_; intro vc wc own1 zc szc; obtain ⟨ac, cc, rfl, _⟩ := own_form own1.row; clear i2; replace hacc := hacc.below zc (by omega); replace hlc := hlc.trans (turn_below zc (Nat.le_refl _)); have sc := zc.size; have oy := own1.own; have hone : ∀ z ∈ [Value.slice ac m cc], z.oneCell' = true := (by intro z hz; simp at hz; subst hz; rfl)) | (at_builtin; refine wpList_acc Try.underlying32 infoI rfl (by decide) (by decide) rfl _ _ _ _ [.slice ac m cc] r hacc oy hone (by omega) (by omega) (by omega) (by omega) hlc rfl (by omega) (by omega) rfl rfl rfl rfl rfl ?_; intro v1 w1 hacc1 ht1 hsz1; obtain ⟨ad, nd, cd, rfl⟩ := hacc1.form3))
        have hbd := hb1.trans ((ht1.below (by omega)).mono (by omega))
        have HO := Lib.hid (hacc1.own (B := w.heap.size) (by omega) (by omega) (Nat.le_refl _))
        clear hacc hlc hacc1 oy hone
        go_wp2_with fail
        go_ret
        exact ⟨_, _, _, rfl, by rw [HE.out]; exact HO.out, hbd⟩

end Go.Proofs.Ytbkoddikfpkocaa

/- Contracts: rows sorted, each once (impl.sorted). -/
namespace Go.Proofs.Ytbkoddikfpkocaa
open Go.RowKit Go.Sort
set_option linter.unusedVariables false
set_option linter.unusedSimpArgs false
set_option synthInstance.maxSize 2000
set_option synthInstance.maxHeartbeats 400000

theorem compF_nil (w : World) :
    Calls Try.prog 190 #[.slice none 0 0, .func (.func 191) #[] #[]] w fun e w' => e = .returned (.slice none 0 0) ∧ w' = w := by
  go_enter Try.func190, Try.ntmps190
  go_wp2_with fail
  go_ret
  exact ⟨rfl, rfl⟩

set_option maxHeartbeats 2000000 in
theorem sorted_any (v : Value) (rows : List (List Int)) (w : World) (h : rII.rep w [v] rows) (hn : bulk_II rows ≤ 100000000) :
    Calls Try.prog 140 #[v] w fun e w' => ∃ u, e = .returned u ∧ Own oII w.heap.size w'.heap.size w' [u] (canon rows) ∧ Below w.heap.size w w' := by
  have HC := Lib.hid (copyRows_any v rows w h hn)
  clear h
  go_enter Try.func140, Try.ntmps140
  go_wp2_with fail
  refine HC.out.mono ?_
  rintro e w1 ⟨u, rfl, ho, z1⟩
  have s1 := z1.size
  obtain ⟨a, n, c, rfl⟩ := oII_form1 ho
  rcases own_nilptr ho with ⟨rfl, rfl, rfl, rfl⟩ | ⟨g, rfl, hln⟩
  · have HO := Lib.hid ho
    clear ho
    go_wp2_with fail
    refine (Go.Proofs.AnyF.slices_SortFunc_none { Try.laysSlF6_f188 with } none 0 _ w1).mono ?_
    rintro e w' ⟨rfl, rfl⟩
    go_wp2_with fail
    refine (compF_nil _).mono ?_
    rintro e w' ⟨rfl, rfl⟩
    go_wp2_with fail
    go_ret
    exact ⟨_, rfl, by simpa [canon] using HO.out, z1⟩
  · obtain ⟨d, hd, hdl, hat, hg, hnd, hbd⟩ := rows_open ho
    have hgl : w.heap.size ≤ g := (hbd g (by simp)).1
    have hn9 : n ≤ 1000000000 := by
      have : rows.length ≤ bulk_II rows := by unfold bulk_II; omega
      omega
    have hsort := Try.slices_SortFunc El.v (fun x => x.one) cfE (swoE w1 g) 189 #[] g 0 c d.toArray w1 (enters_of Try.func189 (by kernel_rfl) rfl) cmpLays hat.holds hg (by simp; omega)
    rw [List.size_toArray, hdl] at hsort
    have HS := Lib.hid hsort
    clear hsort ho
    go_wp2_with fail
    refine HS.out.mono ?_
    rintro e w2 ⟨rfl, d', m, os, hp, hs, rfl⟩
    obtain ⟨hp1, hp2⟩ := permIn_all (d := d) (d' := d') (by rw [List.size_toArray, hdl]; exact hp)
    obtain ⟨hat2, hbut⟩ := At.sort (n := m) (d' := d'.toList) os hat hg (by simp; omega)
    rw [Array.toArray_toList] at hat2 hbut
    have hbl := sortW_below (lo := w.heap.size) (m := m) d' os s1 hgl
    obtain ⟨W, hW⟩ : ∃ W, W = Go.Proofs.sortWorld El.v w1 g 0 m d' os := ⟨_, rfl⟩
    rw [← hW] at hat2 hbut hbl ⊢
    have sW : w1.heap.size ≤ W.heap.size := by rw [hW]; exact (sortW_below (lo := 0) (m := m) d' os (Nat.zero_le _) (Nat.zero_le _)).size
    have HCF := Lib.hid (compF_any d'.toList W hat2 hbut sW hg n (by simp; omega) hn9)
    have HP := Lib.hid hp1
    have HSP := Lib.hid (sorted_pair (d' := d') (by rw [hp2, hdl]; exact hs))
    clear hW hat2 hat hp hs HS HC
    go_wp2_with fail
    refine HCF.out.mono ?_
    rintro e w3 ⟨rfl, hat3, hT⟩
    have hln2 : d'.toList.length = n := by simp; omega
    have hmap : (dedTo El.xs d'.toList n).map El.xs = canon rows := by
      rw [dedTo_map (by omega), List.take_of_length_le (by simp; omega)]
      refine dedup_canon (HSP.out.imp fun h => by omega) fun z => ?_
      rw [← hd]
      exact (HP.out.map El.xs).mem_iff
    have hsub : (dedTo El.xs d'.toList n).Sublist d'.toList := by
      have := dedTo_sub El.xs d'.toList n
      rwa [List.take_of_length_le (by omega)] at this
    have hfp : (fps (dedTo El.xs d'.toList n)).Sublist (fps d'.toList) := fps_sub hsub
    have hfq := fps_perm HP.out
    have hnd2 : (g :: fps d'.toList).Nodup := (List.Perm.nodup_iff (hfq.cons g)).2 hnd
    have key := rows_close (lo := w.heap.size) (hi := w1.heap.size) hat3 (Turn.but hbut sW hT) (hnd2.sublist (hfp.cons_cons g)) (fun k hk => by
      rcases List.mem_cons.1 hk with rfl | hk
      · exact hbd k (by simp)
      · exact hbd k (List.mem_cons_of_mem _ (hfq.mem_iff.1 (hfp.subset hk))))
    rw [hmap] at key
    have hs3 := hT.size
    have HK := Lib.hid (key.mono (Nat.le_refl _) (show w1.heap.size ≤ w3.heap.size by omega))
    have HB := Lib.hid (((z1.trans hbl).trans ((hT.below (by omega)).mono hgl) : Below w.heap.size w w3))
    clear key hmap hsub hfp hfq hnd2 hat3 HCF
    go_wp2_with fail
    go_ret
    exact ⟨_, rfl, HK.out, HB.out⟩

end Go.Proofs.Ytbkoddikfpkocaa

/- Plain: bounds of groups and counts. -/
namespace Go.Proofs.Ytbkoddikfpkocaa
open Go.RowKit
set_option linter.unusedVariables false
set_option linter.unusedSimpArgs false

theorem grpV_facts (t : DT) (cs : List Int) : (grpV t cs).length ≤ 8 ∧ (∀ r ∈ grpV t cs, r.length ≤ 3) := by
  unfold grpV
  split
  · rename_i h
    rw [colsT, Bool.and_eq_true] at h
    have hT := TOk.of h.2
    have h1 := hT.ar
    have h2 := hT.len
    have h3 := colsB_len' (by omega) h.1
    refine ⟨?_, fun r hr => ?_⟩
    · have := canon_len (selRows t.2.2 cs)
      rw [selRows_len] at this
      unfold groups; omega
    · have h9 := canon_mem.1 hr
      simp only [selRows, List.mem_map] at h9
      obtain ⟨y, _, rfl⟩ := h9
      have := sel_len y cs; omega
  · exact ⟨by simp, fun r hr => by cases hr⟩
theorem grpV_bulk (t : DT) (cs : List Int) : cnt_II (grpV t cs) ≤ 200 ∧ bulk_II (grpV t cs) ≤ 100 := by
  obtain ⟨h1, h2⟩ := grpV_facts t cs
  have h3 : sumBy bulk_I (grpV t cs) ≤ (grpV t cs).length * 3 := sumBy_bound (fun r hr => by have := h2 r hr; unfold bulk_I; omega)
  have h4 : bulk_II (grpV t cs) ≤ 100 := by unfold bulk_II; omega
  have h5 := cnt_le_II (grpV t cs)
  omega
theorem grpN_facts (t : DT) (cs : List Int) : (grpN t cs).length = (grpV t cs).length ∧ (∀ x ∈ grpN t cs, 0 ≤ x ∧ x ≤ 8) := by
  unfold grpN grpV
  split
  · rename_i h
    rw [colsT, Bool.and_eq_true] at h
    have h2 := (TOk.of h.2).len
    refine ⟨countsOf_len _ _, fun x hx => ?_⟩
    simp only [countsOf, List.mem_map] at hx
    obtain ⟨g, _, rfl⟩ := hx
    have := cntRow_le g (selRows t.2.2 cs)
    rw [selRows_len] at this
    omega
  · exact ⟨rfl, fun r hr => by cases hr⟩
theorem grpN_cnt (t : DT) (cs : List Int) : cnt_I (grpN t cs) ≤ 8 := by
  have h1 := grpV_facts t cs
  have h2 := grpN_facts t cs
  unfold cnt_I; omega

end Go.Proofs.Ytbkoddikfpkocaa

/- Contracts: groups of a table and their counts, by the program. -/
namespace Go.Proofs.Ytbkoddikfpkocaa
open Go.RowKit
set_option linter.unusedVariables false
set_option linter.unusedSimpArgs false
set_option synthInstance.maxSize 2000
set_option synthInstance.maxHeartbeats 400000

/-- A row's block lies in the range that is owned. -/
theorem own_blk {α : Type} {t : TypeId} {o : OS α} {lo hi b off n c : Nat} {w : World} {xs : List α} (h : Own (O.slice t o) lo hi w [.slice (some ⟨b, off, none⟩) n c] xs) : lo ≤ b ∧ b < hi := by
  obtain ⟨fp, ⟨v, css, fps, hv, rfl, _, _⟩, _, hb⟩ := h
  simp at hv
  subst hv
  exact hb b (by simp [bl, Value.ownBlock])
/-- A row that has been read stays where only other blocks turn. -/
theorem row_keep {lo hi lo' hi' b off n c j m c' : Nat} {w w' : World} {r : Option Addr} {rows : List (List Int)} {xs : List Int} (h : Own oII lo hi w [.slice (some ⟨b, off, none⟩) n c] rows) (hc : w.cell? ⟨b, off + j, none⟩ = some (.slice r m c')) (hj : j < n) (hx : rows[j]? = some xs)
    (ht : Turn lo' hi' w w') (hd : hi ≤ lo' ∨ hi' ≤ lo) : Ints w' r m xs := by
  have hb := own_blk h
  have hlt := cell_lt hc
  simp only at hlt
  obtain ⟨b1, o1, r1, m1, q1, x1, ha, hc1, hx1, hi1, _⟩ := (rS_sl ((h.turn ht hd).rd reads_II)).row hj
  simp at ha
  obtain ⟨rfl, rfl⟩ := ha
  rw [ht.cell (p := ⟨b, off + j, none⟩) hlt (by simp only []; omega), hc] at hc1
  simp at hc1
  obtain ⟨rfl, rfl, rfl⟩ := hc1
  have := hx1.out
  rw [hx] at this
  obtain rfl := Option.some.inj this
  exact hi1
theorem bulk_sel {rows : List (List Int)} {cols : List Int} (h1 : rows.length ≤ 8) (h2 : cols.length ≤ 3) : bulk_II (selRows rows cols) ≤ 100 := by
  have h3 : sumBy bulk_I (selRows rows cols) ≤ (selRows rows cols).length * 3 := sumBy_bound (fun r hr => by
    simp only [selRows, List.mem_map] at hr
    obtain ⟨x, _, rfl⟩ := hr
    have := sel_len x cols
    unfold bulk_I; omega)
  rw [selRows_len] at h3
  unfold bulk_II
  rw [selRows_len]
  omega
/-- The counts on the way: those of the first j rows, then c, then noughts. -/
def cl (gs all : List (List Int)) (n j c : Nat) : List Int := countsOf (gs.take j) all ++ ((c : Int) :: List.replicate (n - (j + 1)) 0)
theorem cl_start {gs all : List (List Int)} {n j : Nat} (h : j < n) : countsOf (gs.take j) all ++ List.replicate (n - j) 0 = cl gs all n j 0 := by
  rw [cl, show n - j = (n - (j + 1)) + 1 by omega, List.replicate_succ]; rfl
theorem cl_pos {gs all : List (List Int)} {n j : Nat} (hl : gs.length = n) (h : j < n) : (countsOf (gs.take j) all).length = j := by
  rw [countsOf_len, List.length_take]; omega
theorem cl_len {gs all : List (List Int)} {n j c : Nat} (hl : gs.length = n) (h : j < n) : (cl gs all n j c).length = n := by
  rw [cl, List.length_append, cl_pos hl h, List.length_cons, List.length_replicate]; omega
theorem cl_get {gs all : List (List Int)} {n j c : Nat} (hl : gs.length = n) (h : j < n) : (cl gs all n j c)[j]? = some (c : Int) := by
  rw [cl, List.getElem?_append_right (by rw [cl_pos hl h]; exact Nat.le_refl _), cl_pos hl h, Nat.sub_self]; rfl
theorem cl_set {gs all : List (List Int)} {n j c : Nat} (hl : gs.length = n) (h : j < n) : (cl gs all n j c).set j ((c : Int) + 1) = cl gs all n j (c + 1) := by
  rw [cl, List.set_append_right _ _ (by rw [cl_pos hl h]; exact Nat.le_refl _), cl_pos hl h, Nat.sub_self]; simp [cl]
theorem cl_end {gs all : List (List Int)} {g : List Int} {n j : Nat} (hg : gs[j]? = some g) : cl gs all n j (cntRow g all) = countsOf (gs.take (j + 1)) all ++ List.replicate (n - (j + 1)) 0 := by
  rw [cl, countsOf_step hg]; simp

set_option maxRecDepth 100000 in
set_option maxHeartbeats 4000000 in
theorem groups_impl (v : Value) (cs : List Value) (t : DT) (cols : List Int) (w : World) (ht : rT.rep w cs t) (h' : rI.rep w [v] cols) :
    Calls Try.prog 63 #[.agg cs.toArray, v] w fun e w' => ∃ b1 n1 c1 b2 n2 c2, ∃ wm : World, e = .returned (.tuple #[.slice b1 n1 c1, .slice b2 n2 c2]) ∧ Own oII w.heap.size wm.heap.size w' [.slice b1 n1 c1] (grpV t cols) ∧ Own oI wm.heap.size w'.heap.size w' [.slice b2 n2 c2] (grpN t cols) ∧ w.heap.size ≤ wm.heap.size ∧ wm.heap.size ≤ w'.heap.size ∧ Below w.heap.size w w' := by
  obtain ⟨b, m, d, hv⟩ := rI_form h'
  simp at hv; subst hv
  obtain ⟨ub, un, uc, rfl, hs, hi, g1⟩ := rT_open ht
  have i0 := rI_ints h'
  have t0 := rS_sl g1
  have hl := t0.len
  have hn := t0.small
  have hml := i0.len
  have HVT := Lib.hid (fun W (hW : Below w.heap.size w W) => validT_impl _ t W (rT.mono ht hW))
  obtain ⟨s, ar, rows⟩ := t
  simp only at hs hi g1 HVT t0 hl
  have HK : Hid (colsT (s, ar, rows) cols = (colsB ar cols && validT (s, ar, rows))) := Lib.hid rfl
  have HAR : Hid (validT (s, ar, rows) = true → TOk (s, ar, rows)) := Lib.hid TOk.of
  obtain ⟨V, hV⟩ : ∃ V, validT (s, ar, rows) = V := ⟨_, rfl⟩
  rw [hV] at HVT HK HAR
  have HE0 : Hid (colsT (s, ar, rows) cols = false → grpV (s, ar, rows) cols = [] ∧ grpN (s, ar, rows) cols = []) := Lib.hid (fun h => by simp [grpV, grpN, h])
  have HE1 : Hid (colsT (s, ar, rows) cols = true → grpV (s, ar, rows) cols = canon (selRows rows cols) ∧ grpN (s, ar, rows) cols = countsOf (canon (selRows rows cols)) (selRows rows cols)) := Lib.hid (fun h => by simp [grpV, grpN, h, groups])
  clear hV ht h' g1 hs hi
  have hb0 : Below w.heap.size w w := Below.refl _ _
  go_enter Try.func63, Try.ntmps63
  obtain ⟨w1, hw1⟩ : ∃ W, W = w.alloc (.cells #[.string s, .int .i64 ar, .slice ub un uc] 34) := ⟨_, rfl⟩
  have z1 : Below w.heap.size w w1 := by rw [hw1]; exact (Below.refl _ _).alloc (Nat.le_refl _) _
  have s1 : w1.heap.size = w.heap.size + 1 := by rw [hw1]; simp
  have hb1 := on hb0 z1
  have t_0 : w1.cell? ⟨w.heap.size, 0, none⟩ = some (.string s) := by rw [hw1]; exact box_cell (Below.refl _ _) rfl
  have t_1 : w1.cell? ⟨w.heap.size, 1, none⟩ = some (.int .i64 ar) := by rw [hw1]; exact box_cell (Below.refl _ _) rfl
  have t_2 : w1.cell? ⟨w.heap.size, 2, none⟩ = some (.slice ub un uc) := by rw [hw1]; exact box_cell (Below.refl _ _) rfl
  have raw1_t_0 := t_0
  have raw1_t_1 := t_1
  have raw1_t_2 := t_2
  rw [hw1] at raw1_t_0 raw1_t_1 raw1_t_2
  go_wp2_with fail
  rw [← hw1]
  clear hw1
  clear raw1_t_0 raw1_t_1 raw1_t_2
  refine (HVT.out _ hb1).mono ?_
  rintro e w9 ⟨rfl, z9⟩
  have s2 := z9.size
  have hb2 := on hb1 z9
  replace t_0 := (z9.cell (p := ⟨w.heap.size, 0, none⟩) (by simp only []; omega)).trans t_0
  replace t_1 := (z9.cell (p := ⟨w.heap.size, 1, none⟩) (by simp only []; omega)).trans t_1
  replace t_2 := (z9.cell (p := ⟨w.heap.size, 2, none⟩) (by simp only []; omega)).trans t_2
  cases V with
  | false =>
    obtain ⟨hE1, hE2⟩ := HE0.out (by rw [HK.out, Bool.and_false])
    have H1 := Lib.hid hE1
    have H2 := Lib.hid hE2
    clear hE1 hE2
    go_wp2_with fail
    refine bodyPost_ret (v := .tuple #[.slice none 0 0, .slice none 0 0]) (by simp [results, Try.results63, go_sem]) rfl ⟨_, _, _, _, _, _, w, rfl, by rw [H1.out]; exact own_nil_S.mono (Nat.le_refl _) (Nat.le_refl _), by rw [H2.out]; exact own_nil_S.mono (Nat.le_refl _) (by omega), Nat.le_refl _, by omega, hb2⟩
  | true =>
    have hT := HAR.out rfl
    have hA := hT.ar
    have hr8 := hT.len
    simp only at hA hr8
    obtain ⟨N, rfl⟩ : ∃ N : Nat, ar = (N : Int) := ⟨ar.toNat, by omega⟩
    have hco := columnsOk_any b m d cols (N : Int) w9 (i0.below hb2) ⟨by omega, by omega⟩ (by omega)
    have HCL : Hid (colsB (N : Int) cols = true → (cols.length : Int) ≤ (N : Int)) := Lib.hid (colsB_len' (by omega))
    obtain ⟨q, hq⟩ : ∃ q, colsB (N : Int) cols = q := ⟨_, rfl⟩
    rw [hq] at hco HK HCL
    have HCO := Lib.hid hco
    clear hco hq HVT HAR hT
    go_wp2_with fail
    refine HCO.out.mono ?_
    rintro e w' ⟨rfl, rfl⟩
    cases q with
    | false =>
      obtain ⟨hE1, hE2⟩ := HE0.out (by rw [HK.out]; rfl)
      have H1 := Lib.hid hE1
      have H2 := Lib.hid hE2
      clear hE1 hE2
      go_wp2_with fail
      refine bodyPost_ret (v := .tuple #[.slice none 0 0, .slice none 0 0]) (by simp [results, Try.results63, go_sem]) rfl ⟨_, _, _, _, _, _, w, rfl, by rw [H1.out]; exact own_nil_S.mono (Nat.le_refl _) (Nat.le_refl _), by rw [H2.out]; exact own_nil_S.mono (Nat.le_refl _) (by omega), Nat.le_refl _, by omega, hb2⟩
    | true =>
      obtain ⟨hE1, hE2⟩ := HE1.out (by rw [HK.out]; rfl)
      have H1 := Lib.hid hE1
      have H2 := Lib.hid hE2
      have hm3 := HCL.out rfl
      have hm4 : m ≤ 3 := by omega
      have hun8 : un ≤ 8 := by omega
      have HBU := Lib.hid (bulk_sel (rows := rows) (cols := cols) hr8 (by omega))
      have I0 := Lib.hid (fun W (hW : Below w.heap.size w W) => i0.below hW)
      clear hE1 hE2 HE0 HE1 HK HCL HCO hml i0
      obtain ⟨w3, hw3⟩ : ∃ W, W = w9.alloc (.cells #[] 24) := ⟨_, rfl⟩
      have z3 : Below w9.heap.size w9 w3 := by rw [hw3]; exact (Below.refl _ _).alloc (Nat.le_refl _) _
      have s3 : w3.heap.size = w9.heap.size + 1 := by rw [hw3]; simp
      have hb3 := on hb2 z3
      replace t_0 := (z3.cell (p := ⟨w.heap.size, 0, none⟩) (by simp only []; omega)).trans t_0
      replace t_1 := (z3.cell (p := ⟨w.heap.size, 1, none⟩) (by simp only []; omega)).trans t_1
      replace t_2 := (z3.cell (p := ⟨w.heap.size, 2, none⟩) (by simp only []; omega)).trans t_2
      have ho : ∀ S, Acc 24 oI w9.heap.size S w3.heap.size w3 (.slice (some ⟨w9.heap.size, 0, none⟩) 0 0) [] := fun S => by rw [hw3]; exact Acc.empty (by omega) (by first | (simp; done) | (simp; omega))
      have raw3_t_0 := t_0
      have raw3_t_1 := t_1
      have raw3_t_2 := t_2
      rw [hw3] at raw3_t_0 raw3_t_1 raw3_t_2
      go_wp2_with fail
      rw [← hw3]
      clear hw3
      clear raw3_t_0 raw3_t_1 raw3_t_2
      go_loopw [6, 31] (fun v k wr => ∃ j : Nat, j ≤ un ∧ k = .int .i64 j ∧ Acc 24 oI w9.heap.size w3.heap.size wr.heap.size wr v (selRows (rows.take j) cols) ∧ Turn w9.heap.size (w9.heap.size + 1) w3 wr) (fun _ k _ => un - (intOf k).toNat)
      case atStart => exact ⟨0, Nat.zero_le _, rfl, by rw [List.take_zero]; exact (ho _).wide (Nat.le_refl _) (by omega), turn_refl _ _ _⟩
      case round =>
        obtain ⟨j, hj, rfl, hacc, hdr⟩ := hrel
        have hlc := hdr
        clear ho
        have s4 := hdr.size
        have hb4 := hb3.trans ((hdr.below (by omega)).mono (by omega))
        replace t_0 := (hdr.cell (p := ⟨w.heap.size, 0, none⟩) (by simp only []; omega) (by simp only []; omega)).trans t_0
        replace t_1 := (hdr.cell (p := ⟨w.heap.size, 1, none⟩) (by simp only []; omega) (by simp only []; omega)).trans t_1
        replace t_2 := (hdr.cell (p := ⟨w.heap.size, 2, none⟩) (by simp only []; omega) (by simp only []; omega)).trans t_2
        have hlen : (selRows (rows.take j) cols).length ≤ 8 := by rw [selRows_len]; have := List.length_take_le j rows; omega
        by_cases hlt : j < un
        · obtain ⟨b0, o0, r1, m1, q1, x, rfl, hc, hx, hi, hq1, hq2⟩ := t0.row hlt
          have hclt : b0 < w.heap.size := cell_lt hc
          have c0 : wr.cell? ⟨b0, o0 + j, none⟩ = some (.slice r1 m1 q1) := (hb4.cell (p := ⟨b0, o0 + j, none⟩) hclt).trans hc
          have HX := Lib.hid (fun W (hW : Below w.heap.size w W) => hi.below hW)
          have HS := Lib.hid (selRows_step (cs := cols) hx.out)
          clear hc hx hi hl t0
          go_wp2_with fail
          refine (sel_impl _ _ _ _ _ _ x cols _ (HX.out _ hb4) (I0.out _ hb4) (by omega)).mono ?_
          rintro e w8 ⟨ab, nb, cb, rfl, oy, z8⟩
          have s5 := z8.size
          have hb5 := on hb4 z8
          replace t_0 := (z8.cell (p := ⟨w.heap.size, 0, none⟩) (by simp only []; omega)).trans t_0
          replace t_1 := (z8.cell (p := ⟨w.heap.size, 1, none⟩) (by simp only []; omega)).trans t_1
          replace t_2 := (z8.cell (p := ⟨w.heap.size, 2, none⟩) (by simp only []; omega)).trans t_2
          replace hlc := hlc.trans (turn_below z8 (Nat.le_refl _))
          replace hacc := hacc.below z8 (by omega)
          replace c0 := (z8.cell (p := ⟨b0, o0 + j, none⟩) (by simp only []; omega)).trans c0
          have hone : ∀ z ∈ [Value.slice ab nb cb], z.oneCell' = true := by intro z hz; simp at hz; subst hz; rfl
          go_wp2_with ((at_builtin; refine wpList_acc Try.underlying32 infoI rfl (by decide) (by decide) rfl _ _ _ _ [.slice ab nb cb] (sel x cols) hacc oy hone (by omega) (by omega) (by omega) (by omega) hlc rfl (by omega) (by omega) rfl rfl rfl rfl rfl ?_; intro v' w1 hacc' ht' hsz'))
          rw [← HS.out] at hacc'
          go_roundw
          case rel => exact ⟨j + 1, by omega, by go_num, hacc', ht'⟩
          case measure => simp [intOf]; omega
        · obtain rfl : un = j := by omega
          obtain ⟨wl, rfl⟩ : ∃ W, W = wr := ⟨_, rfl⟩
          obtain ⟨ab, an, ac, rfl⟩ := hacc.form3
          rw [List.take_of_length_le (by omega)] at hacc
          have o1 := hacc.own (B := w9.heap.size) (hi' := wl.heap.size) (Nat.le_refl _) (by omega) (by omega)
          obtain ⟨all, hall⟩ : ∃ all, selRows rows cols = all := ⟨_, rfl⟩
          have hal8 : all.length ≤ 8 := by rw [← hall, selRows_len]; omega
          rw [hall] at o1 H1 H2 HBU
          clear hacc hall hlen t0 hl I0
          clear hlc
          go_wp2_with fail
          refine (sorted_any _ all _ (o1.rd reads_II) (by have := HBU.out; omega)).mono ?_
          rintro e wS ⟨u, rfl, o2, zS⟩
          obtain ⟨gb, gn, gc, rfl⟩ := oII_form1 o2
          have s6 := zS.size
          have hb6 := on hb4 zS
          replace t_0 := (zS.cell (p := ⟨w.heap.size, 0, none⟩) (by simp only []; omega)).trans t_0
          replace t_1 := (zS.cell (p := ⟨w.heap.size, 1, none⟩) (by simp only []; omega)).trans t_1
          replace t_2 := (zS.cell (p := ⟨w.heap.size, 2, none⟩) (by simp only []; omega)).trans t_2
          replace o1 := o1.below zS (by omega)
          obtain ⟨gs, hgs⟩ : ∃ gs, canon all = gs := ⟨_, rfl⟩
          have hgl8 : gs.length ≤ 8 := by rw [← hgs]; have := canon_len all; omega
          rw [hgs] at o2 H1 H2
          have hgl := (rS_sl (o2.rd reads_II)).len
          have hal := (rS_sl (o1.rd reads_II)).len
          have HGL := Lib.hid hgl
          have HAL := Lib.hid hal
          have hgn : gn ≤ 8 := by omega
          have han : an ≤ 8 := by omega
          clear hgs hgl hal
          go_wp2_with (at_make; refine wpList_mk _ _ gn (by omega) rfl rfl rfl rfl ?_; intro wM hown zM hzM; have s7 := zM.size; have hb7 := on hb6 zM; replace t_0 := (zM.cell (p := ⟨w.heap.size, 0, none⟩) (by simp only []; omega)).trans t_0; replace t_1 := (zM.cell (p := ⟨w.heap.size, 1, none⟩) (by simp only []; omega)).trans t_1; replace t_2 := (zM.cell (p := ⟨w.heap.size, 2, none⟩) (by simp only []; omega)).trans t_2; replace o1 := o1.below zM (by omega); replace o2 := o2.below zM (by omega))
          have hwM : wM.heap.size = wM.heap.size := rfl
          clear hwM
          have H0 : Hid (List.replicate gn (0 : Int) = countsOf (gs.take 0) all ++ List.replicate (gn - 0) 0) := Lib.hid (by simp [countsOf])
          go_loopw [53] (fun k wr => ∃ j : Nat, j ≤ gn ∧ k = .int .i64 j ∧ wr.ownsRow wS.heap.size 3 1 (.slice (some ⟨wS.heap.size, 0, none⟩) gn gn) gn ((countsOf (gs.take j) all ++ List.replicate (gn - j) 0).map (Value.int .i64)) ∧ Turn wS.heap.size (wS.heap.size + 1) wM wr) (fun k _ => gn - (intOf k).toNat)
          case atStart => exact ⟨0, Nat.zero_le _, rfl, by rw [← H0.out]; exact hown, turn_refl _ _ _⟩
          case round =>
            obtain ⟨j, hj, rfl, hcl, hdr⟩ := hrel
            have hlc := hdr
            obtain ⟨wo, rfl⟩ : ∃ W, W = wr := ⟨_, rfl⟩
            clear hown H0
            have s8 := hdr.size
            have hb8 := hb7.trans ((hdr.below (by omega)).mono (by omega))
            replace t_0 := (hdr.cell (p := ⟨w.heap.size, 0, none⟩) (by simp only []; omega) (by simp only []; omega)).trans t_0
            replace t_1 := (hdr.cell (p := ⟨w.heap.size, 1, none⟩) (by simp only []; omega) (by simp only []; omega)).trans t_1
            replace t_2 := (hdr.cell (p := ⟨w.heap.size, 2, none⟩) (by simp only []; omega) (by simp only []; omega)).trans t_2
            replace o1 := o1.turn hdr (by omega)
            replace o2 := o2.turn hdr (by omega)
            by_cases hlt : j < gn
            · obtain ⟨b0, o0, r1, m1, q1, g, rfl, hc, hx, hig, _, _⟩ := (rS_sl (o2.rd reads_II)).row hlt
              have c0 : wo.cell? ⟨b0, o0 + j, none⟩ = some (.slice r1 m1 q1) := hc
              have o2b := o2
              have hb0r := (own_blk o2).2
              have hb0lt := cell_lt hc
              simp only at hb0lt
              have hkg := fun (W : World) (hW : Turn wS.heap.size (wS.heap.size + 1) wo W) => row_keep o2b hc hlt hx.out hW (by omega)
              have HKG := Lib.hid hkg
              have HEND := Lib.hid (cl_end (all := all) (n := gn) hx.out)
              rw [cl_start hlt] at hcl
              have HST : Hid (0 = cntRow g (all.take 0)) := Lib.hid (by simp [cntRow])
              clear hkg o2b hc hx hig
              go_wp2_with fail
              go_loopw [60] (fun k wr => ∃ i c : Nat, i ≤ an ∧ k = .int .i64 i ∧ Hid (c = cntRow g (all.take i)) ∧ c ≤ i ∧ wr.ownsRow wS.heap.size 3 1 (.slice (some ⟨wS.heap.size, 0, none⟩) gn gn) gn ((cl gs all gn j c).map (Value.int .i64)) ∧ Turn wS.heap.size (wS.heap.size + 1) wM wr ∧ Turn wS.heap.size (wS.heap.size + 1) wo wr) (fun k _ => an - (intOf k).toNat)
              case atStart => exact ⟨0, 0, Nat.zero_le _, rfl, HST.out, Nat.le_refl _, hcl, hlc, turn_refl _ _ _⟩
              case round =>
                obtain ⟨i, c, hi, rfl, hC, hci, hcl2, hdr2, hdr3⟩ := hrel
                clear hcl HST
                have s9 := hdr3.size
                have hb9 := hb8.trans ((hdr3.below (by omega)).mono (by omega))
                replace t_0 := (hdr3.cell (p := ⟨w.heap.size, 0, none⟩) (by simp only []; omega) (by simp only []; omega)).trans t_0
                replace t_1 := (hdr3.cell (p := ⟨w.heap.size, 1, none⟩) (by simp only []; omega) (by simp only []; omega)).trans t_1
                replace t_2 := (hdr3.cell (p := ⟨w.heap.size, 2, none⟩) (by simp only []; omega) (by simp only []; omega)).trans t_2
                replace o1 := o1.turn hdr3 (by omega)
                replace o2 := o2.turn hdr3 (by omega)
                replace c0 := (hdr3.cell (p := ⟨b0, o0 + j, none⟩) (by simp only []; omega) (by simp only []; omega)).trans c0
                by_cases hlti : i < an
                · obtain ⟨b3, o3, r3, m3, q3, x, rfl, hc3, hx3, hix, _, _⟩ := (rS_sl (o1.rd reads_II)).row hlti
                  have c3 := hc3
                  have hb3lt := cell_lt hc3
                  simp only at hb3lt
                  have hb3r := (own_blk o1).2
                  have hc8 : c ≤ 8 := by omega
                  obtain ⟨t, htt⟩ : ∃ t, decide (g = x) = t := ⟨_, rfl⟩
                  have hce := equalInts r1 r3 m1 m3 q1 q3 g x wr (HKG.out wr hdr3) hix
                  rw [htt] at hce
                  have HCE := Lib.hid hce
                  have HCT := Lib.hid (cntRow_take (g := g) hx3.out)
                  have HIX : Hid (cntRow g (all.take (i + 1)) = c + (if x = g then 1 else 0)) := Lib.hid (by rw [HCT.out, ← hC.out])
                  clear hce hc3 hx3 hix hC HCT
                  cases t with
                  | false =>
                    have HN : Hid (c = cntRow g (all.take (i + 1))) := Lib.hid (by rw [HIX.out, if_neg (fun h => by rw [h] at htt; simp at htt)]; rfl)
                    clear htt HIX
                    go_wp2_with fail
                    refine (HCE.out).mono ?_
                    rintro e w10 ⟨rfl, z10⟩
                    replace z10 : Below wr.heap.size wr w10 := z10.below _
                    have s11 := z10.size
                    have hb11 := on hb9 z10
                    replace t_0 := (z10.cell (p := ⟨w.heap.size, 0, none⟩) (by simp only []; omega)).trans t_0
                    replace t_1 := (z10.cell (p := ⟨w.heap.size, 1, none⟩) (by simp only []; omega)).trans t_1
                    replace t_2 := (z10.cell (p := ⟨w.heap.size, 2, none⟩) (by simp only []; omega)).trans t_2
                    replace o1 := o1.below z10 (by omega)
                    replace o2 := o2.below z10 (by omega)
                    replace c0 := (z10.cell (p := ⟨b0, o0 + j, none⟩) (by simp only []; omega)).trans c0
                    replace c3 := (z10.cell (p := ⟨b3, o3 + i, none⟩) (by simp only []; omega)).trans c3
                    have HR := Lib.hid (own_below hcl2 z10 (Nat.le_refl _))
                    replace hdr2 := hdr2.trans (turn_below z10 (Nat.le_refl _))
                    replace hdr3 := hdr3.trans (turn_below z10 (Nat.le_refl _))
                    clear hcl2
                    go_wp2_with fail
                    go_roundw
                    case rel => exact ⟨i + 1, c, by omega, by go_num, HN.out, by omega, HR.out, hdr2, hdr3⟩
                    case measure => simp [intOf]; omega
                  | true =>
                    have HN : Hid (c + 1 = cntRow g (all.take (i + 1))) := Lib.hid (by rw [HIX.out, if_pos (of_decide_eq_true htt).symm])
                    clear htt HIX
                    go_wp2_with fail
                    refine (HCE.out).mono ?_
                    rintro e w12 ⟨rfl, z12⟩
                    replace z12 : Below wr.heap.size wr w12 := z12.below _
                    have s13 := z12.size
                    have hb13 := on hb9 z12
                    replace t_0 := (z12.cell (p := ⟨w.heap.size, 0, none⟩) (by simp only []; omega)).trans t_0
                    replace t_1 := (z12.cell (p := ⟨w.heap.size, 1, none⟩) (by simp only []; omega)).trans t_1
                    replace t_2 := (z12.cell (p := ⟨w.heap.size, 2, none⟩) (by simp only []; omega)).trans t_2
                    replace o1 := o1.below z12 (by omega)
                    replace o2 := o2.below z12 (by omega)
                    replace c0 := (z12.cell (p := ⟨b0, o0 + j, none⟩) (by simp only []; omega)).trans c0
                    replace c3 := (z12.cell (p := ⟨b3, o3 + i, none⟩) (by simp only []; omega)).trans c3
                    have hcl3 := own_below hcl2 z12 (Nat.le_refl _)
                    replace hdr2 := hdr2.trans (turn_below z12 (Nat.le_refl _))
                    replace hdr3 := hdr3.trans (turn_below z12 (Nat.le_refl _))
                    clear hcl2
                    have cj : w12.cell? ⟨wS.heap.size, j, none⟩ = some (.int .i64 (c : Int)) := by
                      rw [hcl3.cellAt j (by omega), List.getElem?_map, cl_get HGL.out hlt]; rfl
                    have hfz := hcl3.frozenAt j
                    have HR : Hid ((w12.setCell ⟨wS.heap.size, j, none⟩ (.int .i64 ((c : Int) + 1))).ownsRow wS.heap.size 3 1 (.slice (some ⟨wS.heap.size, 0, none⟩) gn gn) gn ((cl gs all gn j (c + 1)).map (Value.int .i64))) := Lib.hid (by
                      have h9 := (hcl3.stored j (.int .i64 ((c : Int) + 1))).1
                      rw [← cl_set HGL.out hlt, List.map_set]; exact h9)
                    clear hcl3
                    go_wp2_with fail
                    go_roundw
                    case rel => exact ⟨i + 1, c + 1, by omega, by go_num, HN.out, by omega, HR.out, hdr2.setIn (p := ⟨wS.heap.size, j, none⟩) (Nat.le_refl _) (Nat.lt_succ_self _) _, hdr3.setIn (p := ⟨wS.heap.size, j, none⟩) (Nat.le_refl _) (Nat.lt_succ_self _) _⟩
                    case measure => simp [intOf]; omega
                · have HN : Hid (cl gs all gn j c = countsOf (gs.take (j + 1)) all ++ List.replicate (gn - (j + 1)) 0) := Lib.hid (by
                    rw [hC.out, List.take_of_length_le (by have := HAL.out; omega), HEND.out])
                  rw [HN.out] at hcl2
                  have HR := Lib.hid hcl2
                  clear hcl2 hC
                  go_wp2_with fail
                  go_roundw
                  case rel => exact ⟨j + 1, by omega, by go_num, HR.out, hdr2⟩
                  case measure => simp [intOf]; omega
            · have hjn : j = gn := by omega
              have e : countsOf (gs.take j) all ++ List.replicate (gn - j) 0 = countsOf gs all := by
                rw [List.take_of_length_le (by have := HGL.out; omega), show gn - j = 0 by omega]; simp
              rw [e] at hcl
              have HO : Hid (OwnInts wS.heap.size wo (.slice (some ⟨wS.heap.size, 0, none⟩) gn gn) gn (countsOf gs all)) := Lib.hid ⟨by rw [countsOf_len]; exact HGL.out, hcl, fun y hy => by
                simp only [countsOf, List.mem_map] at hy
                obtain ⟨z, _, rfl⟩ := hy
                have := cntRow_le z all
                exact ⟨by omega, by omega⟩⟩
              have HO2 := Lib.hid (o2.mono (lo' := w.heap.size) (hi' := wS.heap.size) (by omega) (by omega))
              clear hcl e o2 o1
              go_wp2_with fail
              refine bodyPost_ret (v := .tuple #[.slice gb gn gc, .slice (some ⟨wS.heap.size, 0, none⟩) gn gn]) (by simp [results, Try.results63, go_sem]) rfl ⟨_, _, _, _, _, _, wS, rfl, by rw [H1.out]; exact HO2.out, by rw [H2.out]; exact HO.out.own, by omega, by omega, hb8⟩

end Go.Proofs.Ytbkoddikfpkocaa
