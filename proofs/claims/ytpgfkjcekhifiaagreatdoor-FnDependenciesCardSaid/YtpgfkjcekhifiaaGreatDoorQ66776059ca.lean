/- Texts joined for one claim: CopyS, Put, Draw3, Draw2, Draw4, Look3, DbOwn, LookA, Dep. -/
import Derived.Test.YtpgfkjcekhifiaaGreatDoorQ92c501f38f
import Derived.Test.YtpgfkjcekhifiaaGreatDoorQ54e7358e31
import Derived.Test.YtpgfkjcekhifiaaGreatDoorQ8dfdece1f0
import Derived.Test.YtpgfkjcekhifiaaGreatDoorQ172172a568
import Derived.Test.YtpgfkjcekhifiaaGreatDoorQ6748bab5ad
import Derived.Test.YtpgfkjcekhifiaaGreatDoorQe58ef1fdfa

namespace Go.Proofs.YtpgfkjcekhifiaaGreatDoor

open Go.RowKit Go.Sort

set_option linter.unusedVariables false

set_option linter.unusedSimpArgs false

set_option synthInstance.maxSize 2000

set_option synthInstance.maxHeartbeats 400000

theorem step_app {ops : Array Oper} {o : Oper} {a : Act} {K : Act → World → Prop} {Q : Exit → Act → World → Prop} {E : Prop} {w w' : World} {s x : Operand} {t t' : TypeId} {vs vx v' : Value}
    {ty : TypeId} (hrun : (Builtin.append_ #[t, t'] ty #[vs, vx]).run Tryz.prog w = .ok v' w') (hty : o.type = ty) (hgd : o.guard = none)
    (ho : o.op = .call { callee := .builtin .append, args := #[s, x], argTypes := #[t, t'] }) (hs : a.eval s = vs) (hx : a.eval x = vx)
    (h : K (a.put o.dst v') w') :
    if Region.wanted o (yielded ops a.tmps) = true then Oper.wp Tryz.prog o a w K Q else E := by
  have hw : Region.wanted o (yielded ops a.tmps) = true := by simp [Region.wanted, hgd]
  rw [if_pos hw]
  unfold Oper.wp execOp
  simp only [ho, resolve, invoke, builtin, Sem.run_bind, Sem.run_pure, Result.andThen_ok, List.map_toArray, List.map_cons, List.map_nil, hs, hx, hty, hrun]
  exact h

theorem cell_ad {w : World} {o : Obj} {p : Addr} {v : Value} (h : w.cell? p = some v) : (w.alloc o).cell? p = some v :=
  (((Below.refl _ _).alloc (Nat.le_refl _) o).cell (p := p) (World.block_lt_of_cell? w p h)).trans h

theorem cell_add {w : World} {o : Obj} {p : Addr} {v : Value} (h : w.cell? p = some v) : (w.alloc o).drew.cell? p = some v :=
  (((Below.refl _ _).alloc (Nat.le_refl _) o).drew.cell (p := p) (World.block_lt_of_cell? w p h)).trans h

theorem run_copyI (W W1 : World) (ty : TypeId) (n c : Nat) (ad : Option Addr) (xs : List Int) (hi : Ints W ad n xs) (hn : n ≤ 1000000000000) (hW1 : W1 = W.alloc (.cells #[] 3)) :
    ∃ v' w', (Builtin.append_ #[27, 27] ty #[.slice (some ⟨W.heap.size, 0, none⟩) 0 0, .slice ad n c]).run Tryz.prog W1 = .ok v' w' ∧ Own oI W.heap.size w'.heap.size w' [v'] xs ∧ Below W.heap.size W w' ∧ W.heap.size < w'.heap.size := by
  subst hW1
  obtain ⟨i, hi0, hz0, hz1, hz2⟩ := info_parts infoInt
  have hown := own_empty (Nat.le_refl W.heap.size)
  have hbl : Below W.heap.size W (W.alloc (.cells #[] 3)) := (Below.refl _ _).alloc (Nat.le_refl _) _
  replace hi := hi.below hbl
  cases ad with
  | none =>
    have hn0 : n = 0 := by
      rcases Nat.eq_zero_or_pos n with h0 | h0
      · exact h0
      · obtain ⟨b, off, hb, _⟩ := hi.cell 0 h0; simp at hb
    subst hn0
    have hx0 : xs = [] := List.eq_nil_of_length_eq_zero hi.len
    subst hx0
    have hr : (Builtin.append_ #[27, 27] ty #[.slice (some ⟨W.heap.size, 0, none⟩) 0 0, .slice none 0 c]).run Tryz.prog (W.alloc (.cells #[] 3)) = .ok (.slice (some ⟨W.heap.size, 0, none⟩) 0 0) (W.alloc (.cells #[] 3)) := run_append_room_src (P := Tryz.prog) (W.alloc (.cells #[] 3)) 27 27 ty 3 i Tryz.underlying27 hi0 W.heap.size 0 0 0 (.slice none 0 c) 0 [] (Src.ofNil _ Tryz.underlying27 c) (by omega) (by simp) (by simp)
    exact ⟨_, _, hr, hown.own, hbl, by simp⟩
  | some ad =>
    have hnews : ∀ j u, (xs.map (Value.int .i64))[j]? = some u → (W.alloc (.cells #[] 3)).cell? (ad.add j) = some u := by
      intro j u hu
      rw [List.getElem?_map] at hu
      have hj : j < n := by
        rw [← hi.len]
        rcases Nat.lt_or_ge j xs.length with h1 | h1
        · exact h1
        · rw [List.getElem?_eq_none h1] at hu; simp at hu
      obtain ⟨b, off, hb, hc⟩ := hi.cell j hj
      simp at hb
      subst hb
      rw [List.getD_eq_getElem?_getD] at hc
      rw [List.getElem?_eq_getElem (by rw [hi.len]; exact hj)] at hu hc
      simp at hu
      subst hu
      rw [Addr.add_lit]
      simpa using hc
    obtain ⟨v', w', hrun, h1, h2, _⟩ := run_append_own_at (P := Tryz.prog) (W.alloc (.cells #[] 3)) W.heap.size 27 ty 3 i (.int .i64 0) 1 8 Tryz.underlying27 hi0 hz0 hz1 hz2 rfl (by decide) _ 0 [] (by simpa using hown.row) ad n c (xs.map (Value.int .i64)) (by simp [hi.len]) hnews (by intro z hz; simp at hz; obtain ⟨y, _, rfl⟩ := hz; rfl) (by unfold maxLen; omega) (by omega) (by simp)
    refine ⟨v', w', hrun, (OwnInts.own ⟨hi.len, by simpa using h1, hi.rng⟩), hbl.grown h2 (by simp) (fun k hk => by simp [Value.ownBlock] at hk; omega), ?_⟩
    have := h2.size; simp at this; omega

set_option maxRecDepth 100000 in
set_option maxHeartbeats 2000000 in
theorem l4Copy_any (cs : List Value) (x : DT) (w : World) (h : rT.rep w cs x) (hn : bulk_T x ≤ 100000000) :
    Calls Tryz.prog 75 #[.agg cs.toArray] w fun e w' => ∃ ds, e = .returned (.agg ds.toArray) ∧ Own oT w.heap.size w'.heap.size w' ds x ∧ Below w.heap.size w w' := by
  obtain ⟨ub, un, uc, rfl, hs, hi, g1⟩ := rT_open h
  clear h
  obtain ⟨s, i, rows⟩ := x
  simp only at hs hi g1
  have hn2 : bulk_II rows ≤ 100000000 := by unfold bulk_T at hn; simp only at hn; omega
  clear hn
  have t0 := rS_sl g1
  have hl := t0.len
  have hn1 : un ≤ 100000000 := by unfold bulk_II at hn2; omega
  have hrows : ∀ (j : Nat) (r : List Int), rows[j]? = some r → r.length ≤ 100000000 := fun j r hr => by
    have h9 := sumBy_mem bulk_I hr; unfold bulk_II at hn2; unfold bulk_I at h9 hn2; omega
  have HR := Lib.hid hrows
  clear hrows hn2
  have hb0 : Below w.heap.size w w := Below.refl _ _
  go_enter Tryz.func75, Tryz.ntmps75
  obtain ⟨w1, hw1⟩ : ∃ W, W = w.alloc (.cells #[.string s, .int .i64 i, .slice ub un uc] 41) := ⟨_, rfl⟩
  have z1 : Below w.heap.size w w1 := by rw [hw1]; exact (Below.refl _ _).alloc (Nat.le_refl _) _
  have s1 : w1.heap.size = w.heap.size + 1 := by rw [hw1]; simp
  have hb1 := on hb0 z1
  have b_0 : w1.cell? ⟨w.heap.size, 0, none⟩ = some (.string s) := by rw [hw1]; exact box_cell (Below.refl _ _) rfl
  have b_1 : w1.cell? ⟨w.heap.size, 1, none⟩ = some (.int .i64 i) := by rw [hw1]; exact box_cell (Below.refl _ _) rfl
  have b_2 : w1.cell? ⟨w.heap.size, 2, none⟩ = some (.slice ub un uc) := by rw [hw1]; exact box_cell (Below.refl _ _) rfl
  have b_f0 : w1.frozen? ⟨w.heap.size, 0, none⟩ = false := by rw [hw1]; exact box_frozen (Below.refl _ _)
  have b_f1 : w1.frozen? ⟨w.heap.size, 1, none⟩ = false := by rw [hw1]; exact box_frozen (Below.refl _ _)
  have b_f2 : w1.frozen? ⟨w.heap.size, 2, none⟩ = false := by rw [hw1]; exact box_frozen (Below.refl _ _)
  have raw1_b_0 := b_0
  have raw1_b_1 := b_1
  have raw1_b_2 := b_2
  rw [hw1] at raw1_b_0 raw1_b_1 raw1_b_2
  obtain ⟨w2, hw2⟩ : ∃ W, W = w1.alloc (.cells #[.string ⟨#[]⟩, .int .i64 0, .slice none 0 0] 41) := ⟨_, rfl⟩
  have z2 : Below w1.heap.size w1 w2 := by rw [hw2]; exact (Below.refl _ _).alloc (Nat.le_refl _) _
  have s2 : w2.heap.size = w1.heap.size + 1 := by rw [hw2]; simp
  have hb2 := on hb1 z2
  replace b_0 := bxc z2 b_0
  replace b_1 := bxc z2 b_1
  replace b_2 := bxc z2 b_2
  replace b_f0 := bxf z2 b_f0
  replace b_f1 := bxf z2 b_f1
  replace b_f2 := bxf z2 b_f2
  have e2 : w1.heap.size = w.heap.size + 1 := by omega
  have r_0 : w2.cell? ⟨w1.heap.size, 0, none⟩ = some (.string ⟨#[]⟩) := by rw [hw2]; exact box_cell (Below.refl _ _) rfl
  have r_1 : w2.cell? ⟨w1.heap.size, 1, none⟩ = some (.int .i64 0) := by rw [hw2]; exact box_cell (Below.refl _ _) rfl
  have r_2 : w2.cell? ⟨w1.heap.size, 2, none⟩ = some (.slice none 0 0) := by rw [hw2]; exact box_cell (Below.refl _ _) rfl
  rw [e2] at r_0 r_1 r_2
  have r_f0 : w2.frozen? ⟨w1.heap.size, 0, none⟩ = false := by rw [hw2]; exact box_frozen (Below.refl _ _)
  have r_f1 : w2.frozen? ⟨w1.heap.size, 1, none⟩ = false := by rw [hw2]; exact box_frozen (Below.refl _ _)
  have r_f2 : w2.frozen? ⟨w1.heap.size, 2, none⟩ = false := by rw [hw2]; exact box_frozen (Below.refl _ _)
  rw [e2] at r_f0 r_f1 r_f2
  have raw2_b_0 := b_0
  have raw2_b_1 := b_1
  have raw2_b_2 := b_2
  have raw2_r_0 := r_0
  have raw2_r_1 := r_1
  have raw2_r_2 := r_2
  rw [hw2, hw1] at raw2_b_0 raw2_b_1 raw2_b_2 raw2_r_0 raw2_r_1 raw2_r_2
  obtain ⟨w3, hw3⟩ : ∃ W, W = w2.alloc (.cells #[.string s, .int .i64 i, .slice none 0 0] 41) := ⟨_, rfl⟩
  have z3 : Below w2.heap.size w2 w3 := by rw [hw3]; exact (Below.refl _ _).alloc (Nat.le_refl _) _
  have s3 : w3.heap.size = w2.heap.size + 1 := by rw [hw3]; simp
  have hb3 := on hb2 z3
  replace b_0 := bxc z3 b_0
  replace b_1 := bxc z3 b_1
  replace b_2 := bxc z3 b_2
  replace b_f0 := bxf z3 b_f0
  replace b_f1 := bxf z3 b_f1
  replace b_f2 := bxf z3 b_f2
  replace r_0 := bxc z3 r_0
  replace r_1 := bxc z3 r_1
  replace r_2 := bxc z3 r_2
  replace r_f0 := bxf z3 r_f0
  replace r_f1 := bxf z3 r_f1
  replace r_f2 := bxf z3 r_f2
  have e3 : w2.heap.size = w.heap.size + 1 + 1 := by omega
  have x_0 : w3.cell? ⟨w2.heap.size, 0, none⟩ = some (.string s) := by rw [hw3]; exact box_cell (Below.refl _ _) rfl
  have x_1 : w3.cell? ⟨w2.heap.size, 1, none⟩ = some (.int .i64 i) := by rw [hw3]; exact box_cell (Below.refl _ _) rfl
  have x_2 : w3.cell? ⟨w2.heap.size, 2, none⟩ = some (.slice none 0 0) := by rw [hw3]; exact box_cell (Below.refl _ _) rfl
  rw [e3] at x_0 x_1 x_2
  have x_f0 : w3.frozen? ⟨w2.heap.size, 0, none⟩ = false := by rw [hw3]; exact box_frozen (Below.refl _ _)
  have x_f1 : w3.frozen? ⟨w2.heap.size, 1, none⟩ = false := by rw [hw3]; exact box_frozen (Below.refl _ _)
  have x_f2 : w3.frozen? ⟨w2.heap.size, 2, none⟩ = false := by rw [hw3]; exact box_frozen (Below.refl _ _)
  rw [e3] at x_f0 x_f1 x_f2
  have raw3_b_0 := b_0
  have raw3_b_1 := b_1
  have raw3_b_2 := b_2
  have raw3_r_0 := r_0
  have raw3_r_1 := r_1
  have raw3_r_2 := r_2
  have raw3_x_0 := x_0
  have raw3_x_1 := x_1
  have raw3_x_2 := x_2
  rw [hw3, hw2, hw1] at raw3_b_0 raw3_b_1 raw3_b_2 raw3_r_0 raw3_r_1 raw3_r_2 raw3_x_0 raw3_x_1 raw3_x_2
  go_wp2_with fail
  rw [← hw1]
  rw [← hw2]
  rw [← hw3]
  clear hw3 hw2 hw1
  clear raw1_b_0 raw1_b_1 raw1_b_2 raw2_b_0 raw2_b_1 raw2_b_2 raw2_r_0 raw2_r_1 raw2_r_2 raw3_b_0 raw3_b_1 raw3_b_2 raw3_r_0 raw3_r_1 raw3_r_2 raw3_x_0 raw3_x_1 raw3_x_2
  go_loopw [4] (fun k wr => ∃ (j : Nat) (v : Value), j ≤ un ∧ k = .int .i64 j ∧ wr.cell? ⟨w.heap.size + 1 + 1, 0, none⟩ = some (.string s) ∧ wr.cell? ⟨w.heap.size + 1 + 1, 1, none⟩ = some (.int .i64 i) ∧ wr.cell? ⟨w.heap.size + 1 + 1, 2, none⟩ = some v ∧ wr.frozen? ⟨w.heap.size + 1 + 1, 2, none⟩ = false ∧ Acc 27 oI w3.heap.size w3.heap.size wr.heap.size wr v (rows.take j) ∧ Turn (w.heap.size + 1 + 1) (w.heap.size + 1 + 1 + 1) w3 wr) (fun k _ => un - (intOf k).toNat)
  case atStart => exact ⟨0, _, Nat.zero_le _, rfl, x_0, x_1, x_2, x_f2, Acc.nil, turn_refl _ _ _⟩
  case round =>
    obtain ⟨j, v, hj, rfl, hv0, hv1, hv, hf, hacc, hdr⟩ := hrel
    have hlc := hdr
    have hE0 : w3.heap.size = w.heap.size + 3 := by omega
    obtain ⟨va, vn, vc, rfl⟩ := hacc.form3
    clear x_0 x_1 x_2 x_f0 x_f1 x_f2
    have s4 := hdr.size
    have hb4 := hb3.trans ((hdr.below (by omega)).mono (by omega))
    replace b_0 := txc hdr b_0
    replace b_1 := txc hdr b_1
    replace b_2 := txc hdr b_2
    replace b_f0 := txf hdr b_f0
    replace b_f1 := txf hdr b_f1
    replace b_f2 := txf hdr b_f2
    replace r_0 := txc hdr r_0
    replace r_1 := txc hdr r_1
    replace r_2 := txc hdr r_2
    replace r_f0 := txf hdr r_f0
    replace r_f1 := txf hdr r_f1
    replace r_f2 := txf hdr r_f2
    have y_0 : wr.cell? ⟨w.heap.size + 1 + 1, 0, none⟩ = some (.string s) := hv0
    have y_1 : wr.cell? ⟨w.heap.size + 1 + 1, 1, none⟩ = some (.int .i64 i) := hv1
    have y_2 : wr.cell? ⟨w.heap.size + 1 + 1, 2, none⟩ = some (.slice va vn vc) := hv
    have hlen : (rows.take j).length ≤ j := List.length_take_le _ _
    by_cases hlt : j < un
    · obtain ⟨b1, o1, ra, rn, rc, t, rfl, hc, hx, hri, hq1, hq2⟩ := t0.row hlt
      have hclt : b1 < w.heap.size := cell_lt hc
      have e_0 : wr.cell? ⟨b1, o1 + j, none⟩ = some (.slice ra rn rc) := (hb4.cell (p := ⟨b1, o1 + j, none⟩) hclt).trans hc
      have HT := Lib.hid (take_snoc' rows j t hx.out)
      have hxl := HR.out j t hx.out
      clear hx hc t0 hl g1
      go_wp2_with fail
      have hri2 := (hri.below hb4).below (Below.refl wr.heap.size wr).drew
      have htl : t.length ≤ 100000000 := hxl
      have hrn : rn ≤ 100000000 := by rw [← hri.len]; exact hxl
      refine wp_region_noPanic ?_
      refine wp_region_lastP (fun W => W.cell? ⟨w.heap.size, 2, none⟩ = some (.slice (some ⟨b1, o1, none⟩) un uc) ∧ W.cell? ⟨w.heap.size + 1 + 1, 2, none⟩ = some (.slice va vn vc) ∧ W.cell? ⟨b1, o1 + j, none⟩ = some (.slice ra rn rc)) 12 (by kernel_rfl) rfl (by kernel_rfl) (by kernel_rfl) ?hS (fun hHeld ops hops => ?_)
      case hS => exact ⟨b_2, y_2, e_0⟩
      simp only [List.pop_toArray, List.dropLast_cons_cons, List.dropLast_singleton] at hops
      subst hops
      refine wpAnyH_take (i := 0) (v := ?v0) rfl (by kernel_rfl) (by kernel_rfl) (by kernel_rfl) (fun _ _ _ h => h) (Or.inl ⟨by rfl, ?hy0⟩) (by assumption) ?rest0
      case hy0 => intro w hSw; (try dsimp only at hSw); go_simp; (try with_reducible rfl)
      try simp only [Act.put, List.setIfInBounds_toArray, List.set_cons_zero, List.set_cons_succ]
      refine wpAnyH_take (i := 1) (v := ?v1) rfl (by kernel_rfl) (by kernel_rfl) (by kernel_rfl) (fun _ _ _ h => h) (Or.inl ⟨by rfl, ?hy1⟩) (by assumption) ?rest1
      case hy1 => intro w hSw; (try dsimp only at hSw); go_simp; (try with_reducible rfl)
      try simp only [Act.put, List.setIfInBounds_toArray, List.set_cons_zero, List.set_cons_succ]
      refine wpAnyH_take (i := 3) (v := ?v3) rfl (by kernel_rfl) (by kernel_rfl) (by kernel_rfl) (fun _ _ _ h => h) (Or.inl ⟨by rfl, ?hy3⟩) (by assumption) ?rest3
      case hy3 => intro w hSw; (try dsimp only at hSw); go_simp; (try with_reducible rfl)
      try simp only [Act.put, List.setIfInBounds_toArray, List.set_cons_zero, List.set_cons_succ]
      refine wpAnyH_take (i := 4) (v := ?v4) rfl (by kernel_rfl) (by kernel_rfl) (by kernel_rfl) (fun _ _ _ h => h) (Or.inl ⟨by rfl, ?hy4⟩) (by assumption) ?rest4
      case hy4 => intro w hSw; (try dsimp only at hSw); go_simp; (try with_reducible rfl)
      try simp only [Act.put, List.setIfInBounds_toArray, List.set_cons_zero, List.set_cons_succ]
      refine wpAnyH_take (i := 5) (v := ?v5) rfl (by kernel_rfl) (by kernel_rfl) (by kernel_rfl) (fun _ _ _ h => h) (Or.inl ⟨by rfl, ?hy5⟩) (by assumption) ?rest5
      case hy5 => intro w hSw; (try dsimp only at hSw); go_simp; (try with_reducible rfl)
      try simp only [Act.put, List.setIfInBounds_toArray, List.set_cons_zero, List.set_cons_succ]
      refine wpAnyH_take (i := 6) (v := ?v6) rfl (by kernel_rfl) (by kernel_rfl) (by kernel_rfl) (fun _ _ _ h => h) (Or.inl ⟨by rfl, ?hy6⟩) (by assumption) ?rest6
      case hy6 => intro w hSw; (try dsimp only at hSw); go_simp; (try with_reducible rfl)
      try simp only [Act.put, List.setIfInBounds_toArray, List.set_cons_zero, List.set_cons_succ]
      refine wpAnyH_take (i := 7) (v := ?v7) rfl (by kernel_rfl) (by kernel_rfl) (by kernel_rfl) (fun _ _ _ h => h) (Or.inl ⟨by rfl, ?hy7⟩) (by assumption) ?rest7
      case hy7 => intro w hSw; (try dsimp only at hSw); go_simp; (try with_reducible rfl)
      try simp only [Act.put, List.setIfInBounds_toArray, List.set_cons_zero, List.set_cons_succ]
      refine wpAnyH_ready (rs := [2]) (by kernel_rfl) (by simp) ?_
      refine AllReadyH.cons rfl (fun K hK => ?_) AllReadyH.nil
      go_simp
      refine hK.out _ _ ?_ (fun hHeld => ?_)
      · exact ⟨cell_add b_2, cell_add y_2, cell_add e_0⟩
      clear hK K
      try simp only [Act.put, List.setIfInBounds_toArray, List.set_cons_zero, List.set_cons_succ]
      refine wpAnyH_ready (rs := [8]) (by kernel_rfl) (by simp) ?_
      refine AllReadyH.cons rfl (fun K hK => ?_) AllReadyH.nil
      obtain ⟨v1, w1, hr1, ho1, hbw, hsz1⟩ := run_copyI wr.drew (wr.alloc (.cells #[] 3)).drew 27 rn rc ra t hri2 (by omega) rfl
      refine step_app hr1 (by rfl) (by rfl) (by rfl) (by rfl) (by rfl) ?_
      obtain ⟨a1, n1, c1, rfl⟩ := oI_form1 ho1
      have hb5 : Below wr.heap.size wr w1 := (Below.refl _ _).drew.trans hbw
      have hS1 := (⟨(hb5.cell (p := ⟨w.heap.size, 2, none⟩) (by simp only []; omega)).trans b_2, (hb5.cell (p := ⟨w.heap.size + 1 + 1, 2, none⟩) (by simp only []; omega)).trans y_2, (hb5.cell (p := ⟨b1, o1 + j, none⟩) (by simp only []; omega)).trans e_0⟩ : (fun W => W.cell? ⟨w.heap.size, 2, none⟩ = some (.slice (some ⟨b1, o1, none⟩) un uc) ∧ W.cell? ⟨w.heap.size + 1 + 1, 2, none⟩ = some (.slice va vn vc) ∧ W.cell? ⟨b1, o1 + j, none⟩ = some (.slice ra rn rc)) w1)
      have ho2 : Own oI wr.heap.size w1.heap.size w1 [.slice a1 n1 c1] t := ho1
      have hsz3 : wr.heap.size < w1.heap.size := hsz1
      refine hK.out _ _ ?_ (fun hHeld => ?_)
      · exact hS1
      clear hK K
      try simp only [Act.put, List.setIfInBounds_toArray, List.set_cons_zero, List.set_cons_succ]
      refine wpAnyH_ready (rs := [9]) (by kernel_rfl) (by simp) ?_
      refine AllReadyH.cons rfl (fun K hK => ?_) AllReadyH.nil
      go_simp
      refine hK.out _ _ ?_ (fun hHeld => ?_)
      · exact ⟨cell_ad hS1.1, cell_ad hS1.2.1, cell_ad hS1.2.2⟩
      clear hK K
      try simp only [Act.put, List.setIfInBounds_toArray, List.set_cons_zero, List.set_cons_succ]
      refine wpAnyH_ready (rs := [10]) (by kernel_rfl) (by simp) ?_
      refine AllReadyH.cons rfl (fun K hK => ?_) AllReadyH.nil
      obtain ⟨v2, w2, hr2, hacc2, ht2, hsz2, hk2⟩ := run_acc Tryz.underlying39 infoI rfl (by decide) (by decide) rfl 39 (.slice va vn vc) (rows.take j) [.slice a1 n1 c1] t (hacc.below hb5 (Nat.le_refl _)) ho2 (by intro z hz; simp at hz; subst hz; rfl) s4 (Nat.le_refl _) (by omega) (Nat.le_refl _) (hlc.trans (turn_below hb5 (Nat.le_refl _))) rfl (.inr (Nat.le_refl _)) (by omega) (by omega) rfl
      refine step_app hr2 (by rfl) (by rfl) (by rfl) (by rfl) (by rfl) ?_
      obtain ⟨a2, n2, c2, rfl⟩ := hacc2.form3
      have hS2 := (⟨(World.cell?_of_block (a := ⟨w.heap.size, 2, none⟩) (hk2 _ (by simp only []; omega) (by simp only []; omega))).trans hS1.1, (World.cell?_of_block (a := ⟨w.heap.size + 1 + 1, 2, none⟩) (hk2 _ (by simp only []; omega) (by simp only []; omega))).trans hS1.2.1, (World.cell?_of_block (a := ⟨b1, o1 + j, none⟩) (hk2 _ (by simp only []; omega) (by simp only []; omega))).trans hS1.2.2⟩ : (fun W => W.cell? ⟨w.heap.size, 2, none⟩ = some (.slice (some ⟨b1, o1, none⟩) un uc) ∧ W.cell? ⟨w.heap.size + 1 + 1, 2, none⟩ = some (.slice va vn vc) ∧ W.cell? ⟨b1, o1 + j, none⟩ = some (.slice ra rn rc)) w2)
      have y_d := hS2.2.1
      have hf2 : w2.frozen? ⟨w.heap.size + 1 + 1, 2, none⟩ = false := (World.frozen?_of_block (a := ⟨w.heap.size + 1 + 1, 2, none⟩) (hk2 _ (by simp only []; omega) (by simp only []; omega))).trans ((hb5.frozen (p := ⟨w.heap.size + 1 + 1, 2, none⟩) (by simp only []; omega)).trans hf)
      refine hK.out _ _ ?_ (fun hHeld => ?_)
      · exact hS2
      clear hK K
      try simp only [Act.put, List.setIfInBounds_toArray, List.set_cons_zero, List.set_cons_succ]
      refine wpAnyH_take (i := 11) (v := ?v11) rfl (by kernel_rfl) (by kernel_rfl) (by kernel_rfl) (fun _ _ _ h => h) (Or.inl ⟨by rfl, ?hy11⟩) (by assumption) ?rest11
      case hy11 => intro w hSw; (try dsimp only at hSw); go_simp; (try with_reducible rfl)
      try simp only [Act.put, List.setIfInBounds_toArray, List.set_cons_zero, List.set_cons_succ]
      refine wpAnyH_done (by kernel_rfl) ?_ _
      simp only [LastQ]
      go_simp
      refine NoPanic.normal ?_
      have y_0d : w2.cell? ⟨w.heap.size + 1 + 1, 0, none⟩ = some (.string s) := (World.cell?_of_block (a := ⟨w.heap.size + 1 + 1, 0, none⟩) (hk2 _ (by simp only []; omega) (by simp only []; omega))).trans ((hb5.cell (p := ⟨w.heap.size + 1 + 1, 0, none⟩) (by simp only []; omega)).trans y_0)
      have y_1d : w2.cell? ⟨w.heap.size + 1 + 1, 1, none⟩ = some (.int .i64 i) := (World.cell?_of_block (a := ⟨w.heap.size + 1 + 1, 1, none⟩) (hk2 _ (by simp only []; omega) (by simp only []; omega))).trans ((hb5.cell (p := ⟨w.heap.size + 1 + 1, 1, none⟩) (by simp only []; omega)).trans y_1)
      rw [← HT.out] at hacc2
      have hacc3 := hacc2.setOut (p := ⟨w.heap.size + 1 + 1, 2, none⟩) (hi' := (w2.setCell ⟨w.heap.size + 1 + 1, 2, none⟩ (.slice a2 n2 c2)).heap.size) (.slice a2 n2 c2) (by simp only []; omega) (by simp only []; omega) (by simp [World.setCell])
      have ht3 := ht2.setIn (p := ⟨w.heap.size + 1 + 1, 2, none⟩) (by simp) (by simp) (.slice a2 n2 c2)
      have k0 : (w2.setCell ⟨w.heap.size + 1 + 1, 2, none⟩ (.slice a2 n2 c2)).cell? ⟨w.heap.size + 1 + 1, 0, none⟩ = some (.string s) := by go_simp
      have k1 : (w2.setCell ⟨w.heap.size + 1 + 1, 2, none⟩ (.slice a2 n2 c2)).cell? ⟨w.heap.size + 1 + 1, 1, none⟩ = some (.int .i64 i) := by go_simp
      have k2 : (w2.setCell ⟨w.heap.size + 1 + 1, 2, none⟩ (.slice a2 n2 c2)).cell? ⟨w.heap.size + 1 + 1, 2, none⟩ = some (.slice a2 n2 c2) := by go_simp
      have k3 : (w2.setCell ⟨w.heap.size + 1 + 1, 2, none⟩ (.slice a2 n2 c2)).frozen? ⟨w.heap.size + 1 + 1, 2, none⟩ = false := by go_simp
      go_wp2_with fail
      refine ⟨⟨j + 1, .slice a2 n2 c2, by omega, by go_num, k0, k1, k2, k3, hacc3, ht3⟩, ?_⟩
      simp [intOf]; omega
    · obtain rfl : j = un := by omega
      rw [List.take_of_length_le (by omega)] at hacc
      go_wp2_with fail
      refine bodyPost_ret (v := .agg #[.string s, .int .i64 i, .slice va vn vc]) (by simp [results, Tryz.results75, go_sem, y_0, y_1, y_2, r_0, r_1, r_2, r_f0, r_f1, r_f2]) rfl ⟨_, rfl, ?_, ?_⟩
      · refine oT_mk (x := (s, i, rows)) hs hi (l2 := w.heap.size + 1 + 1 + 1) (m2 := wr.heap.size) ?_ (by omega) (by simp [World.setCell])
        repeat (refine Own.setOut ?_ rfl (by simp only []; omega))
        exact hacc.own (by omega) (by omega) (Nat.le_refl _)
      · repeat (refine Below.setCell ?_ (by simp only []; omega) _)
        exact hb4

end Go.Proofs.YtpgfkjcekhifiaaGreatDoor

namespace Go.Proofs.YtpgfkjcekhifiaaGreatDoor

open Go.RowKit

set_option linter.unusedVariables false

set_option linter.unusedSimpArgs false

set_option synthInstance.maxSize 2000

set_option synthInstance.maxHeartbeats 400000

theorem putL_at {r x : List Int} {rows : List (List Int)} {j : Nat} (p : Bool) (h : rows[j]? = some x) : putL r p (rows.drop j) = if decide (0 < cmpRows x r) && !(p || decide (cmpRows x r = 0)) then r :: x :: putL r true (rows.drop (j + 1)) else x :: putL r (p || decide (cmpRows x r = 0)) (rows.drop (j + 1)) := by
  rw [drop_at h]; rfl

theorem putL_end {r : List Int} {rows : List (List Int)} {j : Nat} (p : Bool) (h : rows.length ≤ j) : putL r p (rows.drop j) = if p then [] else [r] := by
  rw [List.drop_eq_nil_of_le h]; rfl

set_option maxRecDepth 100000 in
set_option maxHeartbeats 4000000 in
theorem l4Put_any (u v : Value) (rows : List (List Int)) (r : List Int) (w : World) (h : rII.rep w [u] rows) (h' : rI.rep w [v] r) (hn1 : rows.length ≤ 1000000) (hrows : ∀ (j : Nat) (x : List Int), rows[j]? = some x → x.length ≤ 100000000) (hr1 : r.length ≤ 100000000) :
    Calls Tryz.prog 91 #[u, v] w fun e w' => ∃ ub un uc, e = .returned (.slice ub un uc) ∧ Own oII w.heap.size w'.heap.size w' [.slice ub un uc] (putL r false rows) ∧ Below w.heap.size w w' := by
  obtain ⟨a, cap, rfl, _, _, t0⟩ := rS_open h
  obtain ⟨b, cap2, rfl, _, _, ir⟩ := rI_open h'
  clear h h'
  obtain ⟨n, hl⟩ : ∃ n, rows.length = n := ⟨_, rfl⟩
  obtain ⟨m, hm⟩ : ∃ m, r.length = m := ⟨_, rfl⟩
  rw [hl] at t0 hn1 ⊢
  rw [hm] at ir hr1 ⊢
  have HR := Lib.hid hrows
  have HV : Hid (putL r false rows = [] ++ putL r false (rows.drop 0)) := Lib.hid (by simp)
  have IR := Lib.hid (fun W (hW : Below w.heap.size w W) => ir.below hW)
  clear hrows ir
  have hb0 : Below w.heap.size w w := Below.refl _ _
  go_enter Tryz.func91, Tryz.ntmps91
  obtain ⟨w1, hw1⟩ : ∃ W, W = w.alloc (.cells #[] 27) := ⟨_, rfl⟩
  have z1 : Below w.heap.size w w1 := by rw [hw1]; exact (Below.refl _ _).alloc (Nat.le_refl _) _
  have s1 : w1.heap.size = w.heap.size + 1 := by rw [hw1]; simp
  have hb1 := on hb0 z1
  have ho : ∀ S, Acc 27 oI w.heap.size S w1.heap.size w1 (.slice (some ⟨w.heap.size, 0, none⟩) 0 0) [] := fun S => by rw [hw1]; exact Acc.empty (by omega) (by first | (simp; done) | (simp; omega))
  go_wp2_with fail
  rw [← hw1]
  clear hw1
  go_loopw [5, 6, 7] (fun v p k wr => ∃ (j : Nat) (q : Bool) (out : List (List Int)), j ≤ n ∧ k = .int .i64 j ∧ p = .bool q ∧ Hid (putL r false rows = out ++ putL r q (rows.drop j)) ∧ out.length ≤ 2 * j ∧ Acc 27 oI w.heap.size w1.heap.size wr.heap.size wr v out ∧ Turn w.heap.size (w.heap.size + 1) w1 wr) (fun _ _ k _ => n - (intOf k).toNat)
  case atStart => exact ⟨0, false, [], Nat.zero_le _, rfl, rfl, HV.out, Nat.zero_le _, (ho _).wide (Nat.le_refl _) (by omega), turn_refl _ _ _⟩
  case round =>
    obtain ⟨j, q, out, hj, rfl, rfl, hE, hol, hacc, hdr⟩ := hrel
    have hlc := hdr
    have hE0 : w1.heap.size = w.heap.size + 1 := by omega
    clear ho
    have s2 := hdr.size
    have hb2 := hb1.trans ((hdr.below (by omega)).mono (by omega))
    by_cases hlt : j < n
    · obtain ⟨b0, o0, r1, m1, q1, x, rfl, hc, hx, hi, hq1, hq2⟩ := t0.row hlt
      have hclt : b0 < w.heap.size := cell_lt hc
      have c0 : wr.cell? ⟨b0, o0 + j, none⟩ = some (.slice r1 m1 q1) := (hb2.cell (p := ⟨b0, o0 + j, none⟩) hclt).trans hc
      have HX := Lib.hid (fun W (hW : Below w.heap.size w W) => hi.below hW)
      have hxl := HR.out j x hx.out
      have hm1 : m1 ≤ 100000000 := by rw [← hi.len]; exact hxl
      have HP := Lib.hid (putL_at (r := r) q hx.out)
      have HC := Lib.hid (fun W (hW : Below w.heap.size w W) => cmp_spec r1 b m1 m q1 cap2 x r W (hi.below hW) (IR.out W hW))
      obtain ⟨d, hd⟩ : ∃ d, d = cmpRows x r := ⟨_, rfl⟩
      have hrng : d = -1 ∨ d = 0 ∨ d = 1 := by rw [hd]; exact cmpRows_rng x r
      have HP2 : Hid (putL r q (rows.drop j) = if decide (0 < d) && !(q || decide (d = 0)) then r :: x :: putL r true (rows.drop (j + 1)) else x :: putL r (q || decide (d = 0)) (rows.drop (j + 1))) := Lib.hid (by rw [hd]; exact HP.out)
      have HC2 : Hid (∀ W, Below w.heap.size w W → Calls Tryz.prog 33 #[.slice r1 m1 q1, .slice b m cap2] W fun e w' => e = .returned (.int .i64 d) ∧ Drew W w') := Lib.hid (by rw [hd]; exact HC.out)
      have HC0 := Lib.hid hc
      clear hc hx hi hl hE0 HP HC hd
      rcases hrng with rfl | rfl | rfl
      all_goals cases q
      case inl.false =>
        have HE : Hid (putL r false rows = (out ++ [x]) ++ putL r false (rows.drop (j + 1))) := Lib.hid (by rw [hE.out, HP2.out]; simp)
        clear HP2 hE
        go_wp2_with fail
        refine (HC2.out _ hb2).mono ?_
        rintro e w3 ⟨rfl, z3⟩
        replace z3 : Below wr.heap.size wr w3 := z3.below _
        have s4 := z3.size
        have hb4 := on hb2 z3
        replace hlc := hlc.trans (turn_below z3 (Nat.le_refl _))
        replace hacc := hacc.below z3 (by omega)
        replace c0 := bxc z3 c0
        have i2 := (HX.out _ hb4).below ((Below.refl _ _).alloc (Nat.le_refl _) (.cells #[] 3))
        have c0a := cell_ad (o := .cells #[] 3) c0
        go_wp2_with (first | (at_builtin; refine wpList_copyI _ _ _ _ _ _ x rfl i2 (by omega) rfl rfl rfl rfl ?_; intro vc wc own1 zc szc; obtain ⟨ac, cc, rfl, _⟩ := own_form own1.row; clear i2; replace hacc := hacc.below zc (by omega); replace hlc := hlc.trans (turn_below zc (Nat.le_refl _)); have sc := zc.size; have oy := own1.own; have hone : ∀ z ∈ [Value.slice ac m1 cc], z.oneCell' = true := (by intro z hz; simp at hz; subst hz; rfl)) | (at_builtin; refine wpList_acc Tryz.underlying39 infoI rfl (by decide) (by decide) rfl _ _ _ _ [.slice ac m1 cc] x hacc oy hone (by omega) (by omega) (by omega) (by omega) hlc rfl (by omega) (by omega) rfl rfl rfl rfl rfl ?_; intro v1 w1 hacc1 ht1 hsz1; obtain ⟨ad, nd, cd, rfl⟩ := hacc1.form3))
        go_roundw
        case rel => exact ⟨j + 1, false, out ++ [x], by omega, by go_num, rfl, HE.out, by rw [List.length_append]; simp; omega, hacc1, ht1⟩
        case measure => simp [intOf]; omega
      case inl.true =>
        have HE : Hid (putL r false rows = (out ++ [x]) ++ putL r true (rows.drop (j + 1))) := Lib.hid (by rw [hE.out, HP2.out]; simp)
        clear HP2 hE
        go_wp2_with fail
        refine (HC2.out _ hb2).mono ?_
        rintro e w5 ⟨rfl, z5⟩
        replace z5 : Below wr.heap.size wr w5 := z5.below _
        have s6 := z5.size
        have hb6 := on hb2 z5
        replace hlc := hlc.trans (turn_below z5 (Nat.le_refl _))
        replace hacc := hacc.below z5 (by omega)
        replace c0 := bxc z5 c0
        have i2 := (HX.out _ hb6).below ((Below.refl _ _).alloc (Nat.le_refl _) (.cells #[] 3))
        have c0a := cell_ad (o := .cells #[] 3) c0
        go_wp2_with (first | (at_builtin; refine wpList_copyI _ _ _ _ _ _ x rfl i2 (by omega) rfl rfl rfl rfl ?_; intro vc wc own1 zc szc; obtain ⟨ac, cc, rfl, _⟩ := own_form own1.row; clear i2; replace hacc := hacc.below zc (by omega); replace hlc := hlc.trans (turn_below zc (Nat.le_refl _)); have sc := zc.size; have oy := own1.own; have hone : ∀ z ∈ [Value.slice ac m1 cc], z.oneCell' = true := (by intro z hz; simp at hz; subst hz; rfl)) | (at_builtin; refine wpList_acc Tryz.underlying39 infoI rfl (by decide) (by decide) rfl _ _ _ _ [.slice ac m1 cc] x hacc oy hone (by omega) (by omega) (by omega) (by omega) hlc rfl (by omega) (by omega) rfl rfl rfl rfl rfl ?_; intro v1 w1 hacc1 ht1 hsz1; obtain ⟨ad, nd, cd, rfl⟩ := hacc1.form3))
        go_roundw
        case rel => exact ⟨j + 1, true, out ++ [x], by omega, by go_num, rfl, HE.out, by rw [List.length_append]; simp; omega, hacc1, ht1⟩
        case measure => simp [intOf]; omega
      case inr.inl.false =>
        have HE : Hid (putL r false rows = (out ++ [x]) ++ putL r true (rows.drop (j + 1))) := Lib.hid (by rw [hE.out, HP2.out]; simp)
        clear HP2 hE
        go_wp2_with fail
        refine (HC2.out _ hb2).mono ?_
        rintro e w7 ⟨rfl, z7⟩
        replace z7 : Below wr.heap.size wr w7 := z7.below _
        have s8 := z7.size
        have hb8 := on hb2 z7
        replace hlc := hlc.trans (turn_below z7 (Nat.le_refl _))
        replace hacc := hacc.below z7 (by omega)
        replace c0 := bxc z7 c0
        have i2 := (HX.out _ hb8).below ((Below.refl _ _).alloc (Nat.le_refl _) (.cells #[] 3))
        have c0a := cell_ad (o := .cells #[] 3) c0
        go_wp2_with (first | (at_builtin; refine wpList_copyI _ _ _ _ _ _ x rfl i2 (by omega) rfl rfl rfl rfl ?_; intro vc wc own1 zc szc; obtain ⟨ac, cc, rfl, _⟩ := own_form own1.row; clear i2; replace hacc := hacc.below zc (by omega); replace hlc := hlc.trans (turn_below zc (Nat.le_refl _)); have sc := zc.size; have oy := own1.own; have hone : ∀ z ∈ [Value.slice ac m1 cc], z.oneCell' = true := (by intro z hz; simp at hz; subst hz; rfl)) | (at_builtin; refine wpList_acc Tryz.underlying39 infoI rfl (by decide) (by decide) rfl _ _ _ _ [.slice ac m1 cc] x hacc oy hone (by omega) (by omega) (by omega) (by omega) hlc rfl (by omega) (by omega) rfl rfl rfl rfl rfl ?_; intro v1 w1 hacc1 ht1 hsz1; obtain ⟨ad, nd, cd, rfl⟩ := hacc1.form3))
        go_roundw
        case rel => exact ⟨j + 1, true, out ++ [x], by omega, by go_num, rfl, HE.out, by rw [List.length_append]; simp; omega, hacc1, ht1⟩
        case measure => simp [intOf]; omega
      case inr.inl.true =>
        have HE : Hid (putL r false rows = (out ++ [x]) ++ putL r true (rows.drop (j + 1))) := Lib.hid (by rw [hE.out, HP2.out]; simp)
        clear HP2 hE
        go_wp2_with fail
        refine (HC2.out _ hb2).mono ?_
        rintro e w9 ⟨rfl, z9⟩
        replace z9 : Below wr.heap.size wr w9 := z9.below _
        have s10 := z9.size
        have hb10 := on hb2 z9
        replace hlc := hlc.trans (turn_below z9 (Nat.le_refl _))
        replace hacc := hacc.below z9 (by omega)
        replace c0 := bxc z9 c0
        have i2 := (HX.out _ hb10).below ((Below.refl _ _).alloc (Nat.le_refl _) (.cells #[] 3))
        have c0a := cell_ad (o := .cells #[] 3) c0
        go_wp2_with (first | (at_builtin; refine wpList_copyI _ _ _ _ _ _ x rfl i2 (by omega) rfl rfl rfl rfl ?_; intro vc wc own1 zc szc; obtain ⟨ac, cc, rfl, _⟩ := own_form own1.row; clear i2; replace hacc := hacc.below zc (by omega); replace hlc := hlc.trans (turn_below zc (Nat.le_refl _)); have sc := zc.size; have oy := own1.own; have hone : ∀ z ∈ [Value.slice ac m1 cc], z.oneCell' = true := (by intro z hz; simp at hz; subst hz; rfl)) | (at_builtin; refine wpList_acc Tryz.underlying39 infoI rfl (by decide) (by decide) rfl _ _ _ _ [.slice ac m1 cc] x hacc oy hone (by omega) (by omega) (by omega) (by omega) hlc rfl (by omega) (by omega) rfl rfl rfl rfl rfl ?_; intro v1 w1 hacc1 ht1 hsz1; obtain ⟨ad, nd, cd, rfl⟩ := hacc1.form3))
        go_roundw
        case rel => exact ⟨j + 1, true, out ++ [x], by omega, by go_num, rfl, HE.out, by rw [List.length_append]; simp; omega, hacc1, ht1⟩
        case measure => simp [intOf]; omega
      case inr.inr.true =>
        have HE : Hid (putL r false rows = (out ++ [x]) ++ putL r true (rows.drop (j + 1))) := Lib.hid (by rw [hE.out, HP2.out]; simp)
        clear HP2 hE
        go_wp2_with fail
        refine (HC2.out _ hb2).mono ?_
        rintro e w11 ⟨rfl, z11⟩
        replace z11 : Below wr.heap.size wr w11 := z11.below _
        have s12 := z11.size
        have hb12 := on hb2 z11
        replace hlc := hlc.trans (turn_below z11 (Nat.le_refl _))
        replace hacc := hacc.below z11 (by omega)
        replace c0 := bxc z11 c0
        have i2 := (HX.out _ hb12).below ((Below.refl _ _).alloc (Nat.le_refl _) (.cells #[] 3))
        have c0a := cell_ad (o := .cells #[] 3) c0
        go_wp2_with (first | (at_builtin; refine wpList_copyI _ _ _ _ _ _ x rfl i2 (by omega) rfl rfl rfl rfl ?_; intro vc wc own1 zc szc; obtain ⟨ac, cc, rfl, _⟩ := own_form own1.row; clear i2; replace hacc := hacc.below zc (by omega); replace hlc := hlc.trans (turn_below zc (Nat.le_refl _)); have sc := zc.size; have oy := own1.own; have hone : ∀ z ∈ [Value.slice ac m1 cc], z.oneCell' = true := (by intro z hz; simp at hz; subst hz; rfl)) | (at_builtin; refine wpList_acc Tryz.underlying39 infoI rfl (by decide) (by decide) rfl _ _ _ _ [.slice ac m1 cc] x hacc oy hone (by omega) (by omega) (by omega) (by omega) hlc rfl (by omega) (by omega) rfl rfl rfl rfl rfl ?_; intro v1 w1 hacc1 ht1 hsz1; obtain ⟨ad, nd, cd, rfl⟩ := hacc1.form3))
        go_roundw
        case rel => exact ⟨j + 1, true, out ++ [x], by omega, by go_num, rfl, HE.out, by rw [List.length_append]; simp; omega, hacc1, ht1⟩
        case measure => simp [intOf]; omega
      -- the row goes in ahead of this one
      case inr.inr.false =>
        have HE : Hid (putL r false rows = ((out ++ [r]) ++ [x]) ++ putL r true (rows.drop (j + 1))) := Lib.hid (by rw [hE.out, HP2.out]; simp)
        clear HP2 hE
        go_wp2_with fail
        refine (HC2.out _ hb2).mono ?_
        rintro e w13 ⟨rfl, z13⟩
        replace z13 : Below wr.heap.size wr w13 := z13.below _
        have s14 := z13.size
        have hb14 := on hb2 z13
        replace hlc := hlc.trans (turn_below z13 (Nat.le_refl _))
        replace hacc := hacc.below z13 (by omega)
        replace c0 := bxc z13 c0
        have i2 := (IR.out _ hb14).below ((Below.refl _ _).alloc (Nat.le_refl _) (.cells #[] 3))
        have hol1 : (out ++ [r]).length ≤ 2 * j + 1 := by rw [List.length_append]; simp; omega
        go_wp2_with (first | (at_builtin; refine wpList_copyI _ _ _ _ _ _ r rfl i2 (by omega) rfl rfl rfl rfl ?_; intro vc wc own1 zc szc; obtain ⟨ac, cc, rfl, _⟩ := own_form own1.row; clear i2; replace hacc := hacc.below zc (by omega); replace hlc := hlc.trans (turn_below zc (Nat.le_refl _)); have sc := zc.size; have oy := own1.own; have hone : ∀ z ∈ [Value.slice ac m cc], z.oneCell' = true := (by intro z hz; simp at hz; subst hz; rfl); have c0c := (zc.cell (p := ⟨b0, o0 + j, none⟩) (by simp only []; omega)).trans c0) | (at_builtin; refine wpList_acc Tryz.underlying39 infoI rfl (by decide) (by decide) rfl _ _ _ _ [.slice ac m cc] r hacc oy hone (by omega) (by omega) (by omega) (by omega) hlc rfl (by omega) (by omega) rfl rfl rfl rfl rfl ?_; intro v1 wd hacc1 ht1 hsz1; obtain ⟨ad, nd, cd, rfl⟩ := hacc1.form3; have hbd := hb1.trans ((ht1.below (by omega)).mono (by omega)); have sd := ht1.size; have c1 := cell_ad (o := .cells #[] 3) ((hbd.cell (p := ⟨b0, o0 + j, none⟩) hclt).trans HC0.out); have i3 := (HX.out _ hbd).below ((Below.refl _ _).alloc (Nat.le_refl _) (.cells #[] 3)); clear hacc hlc oy hone own1 zc; have hacc := hacc1; have hlc := ht1; clear hacc1 ht1) | (at_builtin; refine wpList_copyI _ _ _ _ _ _ x rfl i3 (by omega) rfl rfl rfl rfl ?_; intro vc wc own1 zc szc; obtain ⟨ac, cc, rfl, _⟩ := own_form own1.row; clear i3; replace hacc := hacc.below zc (by omega); replace hlc := hlc.trans (turn_below zc (Nat.le_refl _)); have sc := zc.size; have oy := own1.own; have hone : ∀ z ∈ [Value.slice ac m1 cc], z.oneCell' = true := (by intro z hz; simp at hz; subst hz; rfl)) | (at_builtin; refine wpList_acc Tryz.underlying39 infoI rfl (by decide) (by decide) rfl _ _ _ _ [.slice ac m1 cc] x hacc oy hone (by omega) (by omega) (by omega) (by omega) hlc rfl (by omega) (by omega) rfl rfl rfl rfl rfl ?_; intro v1 w1 hacc1 ht1 hsz1; obtain ⟨ad, nd, cd, rfl⟩ := hacc1.form3))
        go_roundw
        case rel => exact ⟨j + 1, true, out ++ [r] ++ [x], by omega, by go_num, rfl, HE.out, by rw [List.length_append]; simp only [List.length_cons, List.length_nil]; omega, hacc1, ht1⟩
        case measure => simp [intOf]; omega
    · have hjn : j = n := by omega
      have HE : Hid (putL r false rows = out ++ if q then [] else [r]) := Lib.hid (by rw [hE.out, putL_end q (by omega)])
      clear hE
      cases q with
      | true =>
        obtain ⟨ad, nd, cd, rfl⟩ := hacc.form3
        have HO := Lib.hid (hacc.own (B := w.heap.size) (by omega) (by omega) (Nat.le_refl _))
        clear hacc hl
        go_wp2_with fail
        go_ret
        exact ⟨_, _, _, rfl, by rw [HE.out, if_pos trivial, List.append_nil]; exact HO.out, hb2⟩
      | false =>
        have i2 := (IR.out _ hb2).below ((Below.refl _ _).alloc (Nat.le_refl _) (.cells #[] 3))
        clear hl
        go_wp2_with (first | (at_builtin; refine wpList_copyI _ _ _ _ _ _ r rfl i2 (by omega) rfl rfl rfl rfl ?_; intro vc wc own1 zc szc; obtain ⟨ac, cc, rfl, _⟩ := own_form own1.row; clear i2; replace hacc := hacc.below zc (by omega); replace hlc := hlc.trans (turn_below zc (Nat.le_refl _)); have sc := zc.size; have oy := own1.own; have hone : ∀ z ∈ [Value.slice ac m cc], z.oneCell' = true := (by intro z hz; simp at hz; subst hz; rfl)) | (at_builtin; refine wpList_acc Tryz.underlying39 infoI rfl (by decide) (by decide) rfl _ _ _ _ [.slice ac m cc] r hacc oy hone (by omega) (by omega) (by omega) (by omega) hlc rfl (by omega) (by omega) rfl rfl rfl rfl rfl ?_; intro v1 w1 hacc1 ht1 hsz1; obtain ⟨ad, nd, cd, rfl⟩ := hacc1.form3))
        have hbd := hb1.trans ((ht1.below (by omega)).mono (by omega))
        have HO := Lib.hid (hacc1.own (B := w.heap.size) (by omega) (by omega) (Nat.le_refl _))
        clear hacc hlc hacc1 oy hone
        go_wp2_with fail
        go_ret
        exact ⟨_, _, _, rfl, by rw [HE.out]; exact HO.out, hbd⟩

end Go.Proofs.YtpgfkjcekhifiaaGreatDoor

namespace Go.Proofs.YtpgfkjcekhifiaaGreatDoor

open Go.RowKit

set_option linter.unusedVariables false

set_option linter.unusedSimpArgs false

set_option synthInstance.maxSize 2000

set_option synthInstance.maxHeartbeats 400000

theorem turn_on' {lo hi : Nat} {a b c : World} (h : Turn lo hi a b) (k : Below a.heap.size b c) : Turn lo hi a c :=
  ⟨k.os.trans h.os, k.tape.trans h.tape, k.output.trans h.output, Nat.le_trans h.size k.size, fun i h1 h2 => (k.block i h1).trans (h.block i h1 h2)⟩

theorem Cur.below' {w w' : World} {cb bn bc C : Nat} {ba : Option Addr} (h : Cur w cb ba bn bc) (hb : Below C w w') (hC : cb < C) : Cur w' cb ba bn bc := by
  obtain ⟨⟨i, hh, a1, a2, a3, a4, a5, a6, a7⟩, hby⟩ := h
  refine ⟨⟨i, hh, a1, a2, (hb.cell (p := ⟨cb, 0, none⟩) hC).trans a3, (hb.cell (p := ⟨cb, 1, none⟩) hC).trans a4, (hb.cell (p := ⟨cb, 2, none⟩) hC).trans a5, (hb.frozen (p := ⟨cb, 1, none⟩) hC).trans a6, (hb.frozen (p := ⟨cb, 2, none⟩) hC).trans a7⟩, hby.small, fun j hj => ?_⟩
  obtain ⟨b, off, v, ha, hbc, hc, hv⟩ := hby.cell j hj
  exact ⟨b, off, v, ha, hbc, (hb.cell (p := ⟨b, off + j, none⟩) (by simp only []; omega)).trans hc, hv⟩

theorem Turn.frozen {lo hi : Nat} {w w' : World} (h : Turn lo hi w w') {p : Addr} (h1 : p.block < w.heap.size) (h2 : p.block < lo ∨ hi ≤ p.block) : w'.frozen? p = w.frozen? p := World.frozen?_of_block (h.block _ h1 h2)

def TabSt (w : World) (cb : Nat) (ba : Option Addr) (bn bc : Nat) (name : ByteArray) (A M K : Nat) (wr : World) : Prop :=
  ∃ (b : Option Addr) (n c : Nat) (rows : List (List Int)), rows.length + K ≤ M ∧
    wr.cell? ⟨w.heap.size, 0, none⟩ = some (.string (ByteArray.mk #[])) ∧ wr.cell? ⟨w.heap.size, 1, none⟩ = some (.int .i64 0) ∧ wr.cell? ⟨w.heap.size, 2, none⟩ = some (.slice none 0 0) ∧
    wr.frozen? ⟨w.heap.size, 0, none⟩ = false ∧ wr.frozen? ⟨w.heap.size, 1, none⟩ = false ∧ wr.frozen? ⟨w.heap.size, 2, none⟩ = false ∧
    wr.cell? ⟨w.heap.size + 1, 0, none⟩ = some (.string name) ∧ wr.cell? ⟨w.heap.size + 1, 1, none⟩ = some (.int .i64 (A : Int)) ∧ wr.cell? ⟨w.heap.size + 1, 2, none⟩ = some (.slice b n c) ∧ wr.frozen? ⟨w.heap.size + 1, 2, none⟩ = false ∧
    Own oII (w.heap.size + 1 + 1) wr.heap.size wr [.slice b n c] rows ∧ (∀ r ∈ rows, r.length = A ∧ ∀ v ∈ r, 0 ≤ v ∧ v ≤ 1000000) ∧ Cur wr cb ba bn bc ∧ Turn cb (cb + 1) w wr ∧ w.heap.size + 1 + 1 ≤ wr.heap.size

set_option maxRecDepth 100000 in
set_option maxHeartbeats 2000000 in
theorem l4Tab_any (w : World) (cb : Nat) (ba : Option Addr) (bn bc : Nat) (name : ByteArray) (A M V : Nat) (hA : A ≤ 3) (hM : M ≤ 100) (hV : V ≤ 100) (h : Cur w cb ba bn bc) (hcb : cb < w.heap.size) :
    Calls Tryz.prog 67 #[.pointer (some ⟨cb, 0, none⟩), .string name, .int .i64 (A : Int), .int .i64 (M : Int), .int .i64 (V : Int)] w fun e w' => ∃ b n c rows, e = .returned (.agg #[.string name, .int .i64 (A : Int), .slice b n c]) ∧ Own oII w.heap.size w'.heap.size w' [.slice b n c] rows ∧ rows.length ≤ M ∧ (∀ r ∈ rows, r.length = A ∧ ∀ v ∈ r, 0 ≤ v ∧ v ≤ 1000000) ∧ Cur w' cb ba bn bc ∧ Turn cb (cb + 1) w w' := by
  obtain ⟨w1, hw1⟩ : ∃ W, W = w.alloc (.cells #[.string (ByteArray.mk #[]), .int .i64 0, .slice none 0 0] 41) := ⟨_, rfl⟩
  obtain ⟨w2, hw2⟩ : ∃ W, W = w1.alloc (.cells #[.string name, .int .i64 (A : Int), .slice none 0 0] 41) := ⟨_, rfl⟩
  have s1 : w1.heap.size = w.heap.size + 1 := by rw [hw1]; simp
  have s2 : w2.heap.size = w.heap.size + 1 + 1 := by rw [hw2]; simp [s1]
  have z1 : Below w.heap.size w w1 := by rw [hw1]; exact (Below.refl _ _).alloc (Nat.le_refl _) _
  have z2 : Below w1.heap.size w1 w2 := by rw [hw2]; exact (Below.refl _ _).alloc (Nat.le_refl _) _
  have R_0 : w2.cell? ⟨w.heap.size, 0, none⟩ = some (.string (ByteArray.mk #[])) := (z2.cell (p := ⟨w.heap.size, 0, none⟩) (by simp only []; omega)).trans (by rw [hw1]; exact box_cell (Below.refl _ _) rfl)
  have R_1 : w2.cell? ⟨w.heap.size, 1, none⟩ = some (.int .i64 0) := (z2.cell (p := ⟨w.heap.size, 1, none⟩) (by simp only []; omega)).trans (by rw [hw1]; exact box_cell (Below.refl _ _) rfl)
  have R_2 : w2.cell? ⟨w.heap.size, 2, none⟩ = some (.slice none 0 0) := (z2.cell (p := ⟨w.heap.size, 2, none⟩) (by simp only []; omega)).trans (by rw [hw1]; exact box_cell (Below.refl _ _) rfl)
  have R_f0 : w2.frozen? ⟨w.heap.size, 0, none⟩ = false := (z2.frozen (p := ⟨w.heap.size, 0, none⟩) (by simp only []; omega)).trans (by rw [hw1]; exact box_frozen (Below.refl _ _))
  have R_f1 : w2.frozen? ⟨w.heap.size, 1, none⟩ = false := (z2.frozen (p := ⟨w.heap.size, 1, none⟩) (by simp only []; omega)).trans (by rw [hw1]; exact box_frozen (Below.refl _ _))
  have R_f2 : w2.frozen? ⟨w.heap.size, 2, none⟩ = false := (z2.frozen (p := ⟨w.heap.size, 2, none⟩) (by simp only []; omega)).trans (by rw [hw1]; exact box_frozen (Below.refl _ _))
  have X_0 : w2.cell? ⟨w.heap.size + 1, 0, none⟩ = some (.string name) := by rw [hw2, ← s1]; exact box_cell (Below.refl _ _) rfl
  have X_1 : w2.cell? ⟨w.heap.size + 1, 1, none⟩ = some (.int .i64 (A : Int)) := by rw [hw2, ← s1]; exact box_cell (Below.refl _ _) rfl
  have X_2 : w2.cell? ⟨w.heap.size + 1, 2, none⟩ = some (.slice none 0 0) := by rw [hw2, ← s1]; exact box_cell (Below.refl _ _) rfl
  have X_f2 : w2.frozen? ⟨w.heap.size + 1, 2, none⟩ = false := by rw [hw2, ← s1]; exact box_frozen (Below.refl _ _)
  have HC := Lib.hid ((h.below' z1 hcb).below' z2 (by omega))
  have t2 : Turn cb (cb + 1) w w2 := turn_below (on z1 z2) (Nat.le_refl _)
  clear h z1 z2
  have HB := Lib.hid (l1Below_any w2 cb ba bn bc ((M : Int) + 1) (by omega) HC.out)
  go_enter Tryz.func67, Tryz.ntmps67
  go_wp2_with fail
  rw [← hw1, ← hw2]
  clear hw1 hw2 HC
  refine HB.out.mono ?_
  rintro e w3 ⟨k0, rfl, hk0, hk1, hk2, hc3, hk3⟩
  obtain ⟨K, rfl⟩ := Int.eq_ofNat_of_zero_le hk0
  have hK : K ≤ M := by have := hk1 (by omega); omega
  have s3 := hk3.size
  have t3 := t2.trans hk3.turn
  replace R_0 := txc hk3.turn R_0
  replace R_1 := txc hk3.turn R_1
  replace R_2 := txc hk3.turn R_2
  replace R_f0 := txf hk3.turn R_f0
  replace R_f1 := txf hk3.turn R_f1
  replace R_f2 := txf hk3.turn R_f2
  replace X_0 := txc hk3.turn X_0
  replace X_1 := txc hk3.turn X_1
  replace X_2 := txc hk3.turn X_2
  replace X_f2 := txf hk3.turn X_f2
  clear hk0 hk1 hk2 hk3 t2 HB
  have HST : Hid (TabSt w cb ba bn bc name A M K w3) := Lib.hid ⟨none, 0, 0, [], by simpa using hK, R_0, R_1, R_2, R_f0, R_f1, R_f2, X_0, X_1, X_2, X_f2, (own_nil_S (B := w.heap.size + 1 + 1)).mono (Nat.le_refl _) (by omega), by simp, hc3, t3, by omega⟩
  clear R_0 R_1 R_2 R_f0 R_f1 R_f2 X_0 X_1 X_2 X_f2 hc3 t3 s1 s2 s3
  go_wp2_with fail
  go_loopw [12] (fun k wr => ∃ K : Nat, k = .int .i64 (K : Int) ∧ Hid (TabSt w cb ba bn bc name A M K wr)) (fun k _ => (intOf k).toNat)
  case atStart => exact ⟨K, rfl, HST⟩
  case round =>
    clear HST hK
    obtain ⟨Kn, rfl, HS⟩ := hrel
    obtain ⟨b, n, c, rows, hrk, R_0, R_1, R_2, R_f0, R_f1, R_f2, X_0, X_1, X_2, X_f2, ho, hrw, hcur, ht, hsz⟩ := HS.out
    clear HS
    by_cases hK0 : 0 < Kn
    · have hKi : (Kn : Int) > 0 := by omega
      obtain ⟨wl, hwl⟩ : ∃ W, W = wr := ⟨_, rfl⟩
      subst hwl
      obtain ⟨wA, hwA⟩ : ∃ W, W = wl.alloc (.cells #[] 3) := ⟨_, rfl⟩
      have zA : Below wl.heap.size wl wA := by rw [hwA]; exact (Below.refl _ _).alloc (Nat.le_refl _) _
      have sA : wA.heap.size = wl.heap.size + 1 := by rw [hwA]; simp
      have HOA : Hid (Own oI wl.heap.size wA.heap.size wA [.slice (some ⟨wl.heap.size, 0, none⟩) 0 0] []) := Lib.hid (by rw [hwA]; exact (own_empty (Nat.le_refl wl.heap.size)).own)
      have HCA := Lib.hid (hcur.below' zA (by omega))
      have HTA : Hid (Turn cb (cb + 1) wl wA) := Lib.hid (turn_below zA (Nat.le_refl _))
      have HOR := Lib.hid ho
      have HRW := Lib.hid hrw
      have HT := Lib.hid ht
      clear ho hrw ht hcur zA
      go_wp2_with fail
      rw [← hwA]
      clear hwA
      go_loopw [13, 14] (fun v i wi => ∃ (j n' c' : Nat) (b' : Option Addr) (xs : List Int), j ≤ A ∧ i = .int .i64 (j : Int) ∧ v = .slice b' n' c' ∧ Own oI wl.heap.size wi.heap.size wi [.slice b' n' c'] xs ∧ xs.length = j ∧ (∀ v ∈ xs, 0 ≤ v ∧ v ≤ 1000000) ∧ Cur wi cb ba bn bc ∧ Turn cb (cb + 1) wl wi) (fun _ i _ => A - (intOf i).toNat)
      case atStart => exact ⟨0, 0, 0, _, [], Nat.zero_le _, rfl, rfl, HOA.out, rfl, by simp, HCA.out, HTA.out⟩
      case round =>
        clear HOA HCA HTA
        obtain ⟨j, n', c', b', xs, hj, rfl, rfl, ho, hxl, hxr, hcur, ht⟩ := hrel
        have hts := ht.size
        by_cases hlt : j < A
        · have HON := Lib.hid (l1Below_any wr cb ba bn bc (V : Int) (by omega) hcur)
          have HOW := Lib.hid ho
          have HTT := Lib.hid ht
          have HXR := Lib.hid hxr
          clear hcur ho ht hxr
          go_wp2_with fail
          refine HON.out.mono ?_
          rintro e w1 ⟨x, rfl, hx0, hx1, hx2, hc1, hk1⟩
          have o1 := HOW.out.kept hk1 (.inr (by omega))
          have hz1 : w1.heap.size ≤ wr.heap.size := Nat.le_of_eq hk1.size
          have hz2 : wr.heap.size ≤ w1.heap.size := Nat.le_of_eq hk1.size.symm
          have t1 := HTT.out.trans hk1.turn
          obtain ⟨na, nn, nc, wn, hrn, on_, hbn, hzn⟩ := own_num 27 o1 (r := x) ⟨by omega, by omega⟩ (by omega) hts (by omega) rfl
          have HCN := Lib.hid (hc1.below' hbn (by omega))
          have TN := Lib.hid (turn_on' t1 hbn)
          have ON := Lib.hid on_
          have HX2 : Hid (∀ v ∈ xs ++ [x], 0 ≤ v ∧ v ≤ 1000000) := Lib.hid (by
            intro v hv
            rcases List.mem_append.1 hv with hv | hv
            · exact HXR.out v hv
            · simp at hv; subst hv; exact ⟨hx0, hx2⟩)
          clear o1 t1 on_ hk1 hc1 hx1
          go_wp2_with ((at_builtin; refine wpList_app_run hrn rfl rfl rfl rfl rfl ?_))
          go_roundw
          case rel => exact ⟨j + 1, nn, nc, na, xs ++ [x], by omega, by go_num, rfl, ON.out, by rw [List.length_append]; simp; omega, HX2.out, HCN.out, TN.out⟩
          case measure => simp [intOf]; omega
        · obtain ⟨K2, rfl⟩ : ∃ K2, Kn = K2 + 1 := ⟨Kn - 1, by omega⟩
          have hjA : xs.length = A := by omega
          replace R_0 := txc ht R_0
          replace R_1 := txc ht R_1
          replace R_2 := txc ht R_2
          replace R_f0 := txf ht R_f0
          replace R_f1 := txf ht R_f1
          replace R_f2 := txf ht R_f2
          replace X_0 := txc ht X_0
          replace X_1 := txc ht X_1
          replace X_2 := txc ht X_2
          replace X_f2 := txf ht X_f2
          have oR := HOR.out.turn ht (.inr (by omega))
          have T2 := HT.out.trans ht
          have HPUT := Lib.hid (l4Put_any _ _ rows xs wr (oR.rd reads_II) (ho.rd reads_I) (by omega) (fun q x hq => by have := (HRW.out x (List.mem_of_getElem? hq)).1; omega) (by omega))
          have HCU := Lib.hid hcur
          have HXR := Lib.hid hxr
          have HT2 := Lib.hid T2
          clear ho hcur ht hxr oR T2 HOR HT
          go_wp2_with fail
          refine HPUT.out.mono ?_
          rintro e w4 ⟨ub, un, uc, rfl, o4, z4⟩
          have s4 := z4.size
          replace R_0 := bxc z4 R_0
          replace R_1 := bxc z4 R_1
          replace R_2 := bxc z4 R_2
          replace R_f0 := bxf z4 R_f0
          replace R_f1 := bxf z4 R_f1
          replace R_f2 := bxf z4 R_f2
          replace X_0 := bxc z4 X_0
          replace X_1 := bxc z4 X_1
          replace X_2 := bxc z4 X_2
          replace X_f2 := bxf z4 X_f2
          have zS : Below w.heap.size w4 (w4.setCell ⟨w.heap.size + 1, 2, none⟩ (.slice ub un uc)) := Below.setCell (Below.refl _ _) (by simp only []; omega) _
          have HS2 : Hid (TabSt w cb ba bn bc name A M K2 (w4.setCell ⟨w.heap.size + 1, 2, none⟩ (.slice ub un uc))) := Lib.hid ⟨ub, un, uc, putL xs false rows, by have := putL_len xs false rows; omega,
            by simp [go_sem, R_0], by simp [go_sem, R_1], by simp [go_sem, R_2], by simp [go_sem, R_f0], by simp [go_sem, R_f1], by simp [go_sem, R_f2], by simp [go_sem, X_0], by simp [go_sem, X_1], by simp [go_sem, X_2], by simp [go_sem, X_f2],
            (Own.setOut o4 rfl (by simp only []; omega)).mono (by omega) (by simp [World.setCell]),
            fun r hr => by
              rcases (putL_mem xs).1 hr with rfl | hr
              · exact ⟨hjA, HXR.out⟩
              · exact HRW.out r hr,
            (HCU.out.below' z4 (by omega)).below' zS (by omega), turn_on' HT2.out ((z4.mono (by omega)).trans zS), by simp [World.setCell]; omega⟩
          clear HPUT HCU HXR HT2 o4 z4 zS HRW
          go_wp2_with fail
          go_roundw
          case rel => exact ⟨K2, by go_num, HS2⟩
          case measure => simp [intOf]
    · obtain rfl : Kn = 0 := by omega
      have HOR := Lib.hid ho
      have HRW := Lib.hid hrw
      have HT := Lib.hid ht
      have HCU := Lib.hid hcur
      clear ho hrw ht hcur
      go_wp2_with fail
      refine bodyPost_ret (v := .agg #[.string name, .int .i64 (A : Int), .slice b n c]) (by simp [results, Tryz.results67, go_sem, R_0, R_1, R_2, R_f0, R_f1, R_f2, X_0, X_1, X_2]) rfl ⟨b, n, c, rows, rfl, ?_, by omega, HRW.out, ?_, ?_⟩
      · refine Own.mono (lo := w.heap.size + 1 + 1) (hi := wr.heap.size) ?_ (by omega) (by simp [World.setCell])
        repeat (refine Own.setOut ?_ rfl (by simp only []; omega))
        exact HOR.out
      · refine HCU.out.below' (C := w.heap.size) ?_ hcb
        repeat (refine Below.setCell ?_ (by simp only []; omega) _)
        exact Below.refl _ _
      · refine turn_on' HT.out ?_
        repeat (refine Below.setCell ?_ (by simp only []; omega) _)
        exact Below.refl _ _

theorem infoRow3 : (Tryz.prog.info? 27).map (fun i => (i.zero, i.size, i.bytes)) = some (some (.slice none 0 0), 1, 24) := by kernel_rfl

end Go.Proofs.YtpgfkjcekhifiaaGreatDoor

namespace Go.Proofs.YtpgfkjcekhifiaaGreatDoor

open Go.RowKit

set_option linter.unusedVariables false

set_option linter.unusedSimpArgs false

set_option synthInstance.maxSize 2000

set_option synthInstance.maxHeartbeats 400000

theorem ints_four (W : World) (x y z v : Int) (hx : I64 x) (hy : I64 y) (hz : I64 z) (hv : I64 v) : Ints (W.alloc (.cells #[.int .i64 x, .int .i64 y, .int .i64 z, .int .i64 v] 3)) (some ⟨W.heap.size, 0, none⟩) 4 [x, y, z, v] :=
  ⟨rfl, by omega, fun i hi => by
    refine ⟨W.heap.size, 0, rfl, ?_⟩
    rw [Nat.zero_add]
    rcases (by omega : i = 0 ∨ i = 1 ∨ i = 2 ∨ i = 3) with rfl | rfl | rfl | rfl <;> exact box_cell (Below.refl _ _) rfl, fun u hu => by
    simp only [List.mem_cons, List.not_mem_nil, or_false] at hu
    rcases hu with rfl | rfl | rfl | rfl <;> assumption⟩

theorem Cur.below {w w' : World} {cb bn bc C : Nat} {ba : Option Addr} (h : Cur w cb ba bn bc) (hb : Below C w w') (hC : cb < C) : Cur w' cb ba bn bc := by
  obtain ⟨⟨i, hh, a1, a2, a3, a4, a5, a6, a7⟩, hby⟩ := h
  refine ⟨⟨i, hh, a1, a2, (hb.cell (p := ⟨cb, 0, none⟩) hC).trans a3, (hb.cell (p := ⟨cb, 1, none⟩) hC).trans a4, (hb.cell (p := ⟨cb, 2, none⟩) hC).trans a5, (hb.frozen (p := ⟨cb, 1, none⟩) hC).trans a6, (hb.frozen (p := ⟨cb, 2, none⟩) hC).trans a7⟩, hby.small, fun j hj => ?_⟩
  obtain ⟨b, off, v, ha, hbc, hc, hv⟩ := hby.cell j hj
  exact ⟨b, off, v, ha, hbc, (hb.cell (p := ⟨b, off + j, none⟩) (by simp only []; omega)).trans hc, hv⟩

set_option maxRecDepth 100000 in
set_option maxHeartbeats 2000000 in
theorem l10Set_any (w : World) (cb : Nat) (ba : Option Addr) (bn bc : Nat) (N : Nat) (hN : N ≤ 1000) (h : Cur w cb ba bn bc) (hcb : cb < w.heap.size) :
    Calls Tryz.prog 42 #[.pointer (some ⟨cb, 0, none⟩), .int .i64 (N : Int)] w fun e w' => ∃ b n c xs, e = .returned (.slice b n c) ∧ Own oI w.heap.size w'.heap.size w' [.slice b n c] xs ∧ xs.length ≤ N + 1 ∧ Cur w' cb ba bn bc ∧ Turn cb (cb + 1) w w' := by
  have HC0 := Lib.hid (h.below ((Below.refl w.heap.size w).alloc (Nat.le_refl _) (.cells #[] 3)) hcb)
  have HO0 : Hid (Own oI w.heap.size (w.alloc (.cells #[] 3)).heap.size (w.alloc (.cells #[] 3)) [.slice (some ⟨w.heap.size, 0, none⟩) 0 0] []) := Lib.hid (own_empty (Nat.le_refl w.heap.size)).own
  have HT0 : Hid (Turn cb (cb + 1) w (w.alloc (.cells #[] 3))) := Lib.hid (turn_below ((Below.refl w.heap.size w).alloc (Nat.le_refl _) _) (Nat.le_refl _))
  clear h
  go_enter Tryz.func42, Tryz.ntmps42
  go_wp2_with fail
  go_loopw [5, 6] (fun v i wr => ∃ (j n c : Nat) (b : Option Addr) (xs : List Int), j ≤ N ∧ i = .int .i64 j ∧ v = .slice b n c ∧ Own oI w.heap.size wr.heap.size wr [.slice b n c] xs ∧ xs.length ≤ j ∧ Cur wr cb ba bn bc ∧ Turn cb (cb + 1) w wr) (fun _ i _ => N - (intOf i).toNat)
  case atStart => exact ⟨0, 0, 0, _, [], Nat.zero_le _, rfl, rfl, HO0.out, Nat.le_refl _, HC0.out, HT0.out⟩
  case round =>
    obtain ⟨j, n, c, b, xs, hj, rfl, rfl, ho, hxl, hcur, ht⟩ := hrel
    have hts := ht.size
    by_cases hlt : j < N
    · have HON := Lib.hid (l1Once_any wr cb ba bn bc 2 (by omega) hcur)
      have HOW := Lib.hid ho
      have HTT := Lib.hid ht
      clear HC0 HO0 HT0 hcur ho ht
      go_wp2_with fail
      refine HON.out.mono ?_
      rintro e w1 ⟨t, rfl, hc1, hk1⟩
      have o1 := HOW.out.kept hk1 (.inr (by omega))
      have hz1 : w1.heap.size ≤ wr.heap.size := Nat.le_of_eq hk1.size
      have hz2 : wr.heap.size ≤ w1.heap.size := Nat.le_of_eq hk1.size.symm
      have t1 := HTT.out.trans hk1.turn
      have HC1 := Lib.hid hc1
      clear hk1 hc1
      cases t with
      | true =>
        obtain ⟨na, nn, nc, wn, hrn, on, hbn, hzn⟩ := own_num 27 o1 (r := (j : Int)) ⟨by omega, by omega⟩ (by omega) hts (by omega) rfl
        have HCN := Lib.hid (HC1.out.below hbn hcb)
        have TN := Lib.hid (turn_on' t1 hbn)
        have ON := Lib.hid on
        clear o1 t1 on
        go_wp2_with ((at_builtin; refine wpList_app_run hrn rfl rfl rfl rfl rfl ?_))
        go_roundw
        case rel => exact ⟨j + 1, nn, nc, na, xs ++ [(j : Int)], by omega, by go_num, rfl, ON.out, by rw [List.length_append]; simp; omega, HCN.out, TN.out⟩
        case measure => simp [intOf]; omega
      | false =>
        have O1 := Lib.hid (o1.mono (Nat.le_refl _) (show wr.heap.size ≤ w1.heap.size by omega))
        have T1 := Lib.hid t1
        clear o1 t1
        go_wp2_with fail
        go_roundw
        case rel => exact ⟨j + 1, n, c, b, xs, by omega, by go_num, rfl, O1.out, by omega, HC1.out, T1.out⟩
        case measure => simp [intOf]; omega
    · have HON := Lib.hid (l1Once_any wr cb ba bn bc 12 (by omega) hcur)
      have HOW := Lib.hid ho
      have HTT := Lib.hid ht
      clear HC0 HO0 HT0 hcur ho ht
      go_wp2_with fail
      refine HON.out.mono ?_
      rintro e w1 ⟨t, rfl, hc1, hk1⟩
      have o1 := HOW.out.kept hk1 (.inr (by omega))
      have hz1 : w1.heap.size ≤ wr.heap.size := Nat.le_of_eq hk1.size
      have hz2 : wr.heap.size ≤ w1.heap.size := Nat.le_of_eq hk1.size.symm
      have t1 := HTT.out.trans hk1.turn
      have HC1 := Lib.hid hc1
      clear hk1 hc1
      cases t with
      | false =>
        have O1 := Lib.hid (o1.mono (Nat.le_refl _) (show wr.heap.size ≤ w1.heap.size by omega))
        have T1 := Lib.hid t1
        clear o1 t1
        go_wp2_with fail
        go_ret
        exact ⟨_, _, _, xs, rfl, O1.out, by omega, HC1.out, T1.out⟩
      | true =>
        have hbA : Below w1.heap.size w1 (w1.alloc (.cells #[.int .i64 (-1), .int .i64 0, .int .i64 3, .int .i64 9223372036854775807] 3)) := (Below.refl _ _).alloc (Nat.le_refl _) _
        have HP := Lib.hid (l1PickInt_any (w1.alloc (.cells #[.int .i64 (-1), .int .i64 0, .int .i64 3, .int .i64 9223372036854775807] 3)) cb ba bn bc w1.heap.size 4 4 [-1, 0, 3, 9223372036854775807] (by omega) (by omega) (ints_four w1 _ _ _ _ (by constructor <;> decide) (by constructor <;> decide) (by constructor <;> decide) (by constructor <;> decide)) (by omega) (HC1.out.below hbA (by omega)))
        have oA := o1.below hbA (by omega)
        have tA := t1.trans (turn_below hbA (Nat.le_refl _))
        have sA : w1.heap.size ≤ (w1.alloc (.cells #[.int .i64 (-1), .int .i64 0, .int .i64 3, .int .i64 9223372036854775807] 3)).heap.size := hbA.size
        have OA := Lib.hid oA
        have TA := Lib.hid tA
        have SA := Lib.hid sA
        clear o1 t1 oA tA sA hbA
        go_wp2_with fail
        refine HP.out.mono ?_
        rintro e w2 ⟨x, rfl, hx, hc2, hk2⟩
        have hx64 : I64 x := by
          simp only [List.mem_cons, List.not_mem_nil, or_false] at hx
          rcases hx with rfl | rfl | rfl | rfl <;> (constructor <;> decide)
        have hz3 : w1.heap.size ≤ w2.heap.size := by rw [hk2.size]; exact SA.out
        have o2 := OA.out.kept hk2 (.inr (by omega))
        obtain ⟨na, nn, nc, wn, hrn, on, hbn, hzn⟩ := own_num 27 o2 (r := x) hx64 (by omega) hts (by omega) rfl
        have HCN := Lib.hid (hc2.below hbn hcb)
        have TN := Lib.hid (turn_on' (TA.out.trans hk2.turn) hbn)
        have ON := Lib.hid on
        clear o2 on hc2 hk2 hx hx64
        go_wp2_with ((at_builtin; refine wpList_app_run hrn rfl rfl rfl rfl rfl ?_))
        go_ret
        exact ⟨_, _, _, xs ++ [x], rfl, ON.out, by rw [List.length_append]; simp; omega, HCN.out, TN.out⟩

end Go.Proofs.YtpgfkjcekhifiaaGreatDoor

namespace Go.Proofs.YtpgfkjcekhifiaaGreatDoor

open Go.RowKit

set_option linter.unusedVariables false

set_option linter.unusedSimpArgs false

set_option synthInstance.maxSize 2000

set_option synthInstance.maxHeartbeats 400000

theorem own_off {α : Type} {o : OS α} {lo hi : Nat} {w w' : World} {cs : List Value} {x : α} (h : Own o lo hi w cs x) {p : Addr} {u : Value} (hw : w' = w.setCell p u) (hp : p.block < lo ∨ hi ≤ p.block) : Own o lo hi w' cs x := by
  subst hw
  obtain ⟨fp, h1, h2, h3⟩ := h
  exact ⟨fp, o.frame h1 (fun k hk => Below.heap_setCell _ _ _ _ (by have := h3 k hk; omega)), h2, h3⟩

theorem ints_three (W : World) (x y z : Int) (hx : I64 x) (hy : I64 y) (hz : I64 z) : Ints (W.alloc (.cells #[.int .i64 x, .int .i64 y, .int .i64 z] 3)) (some ⟨W.heap.size, 0, none⟩) 3 [x, y, z] :=
  ⟨rfl, by omega, fun i hi => by
    refine ⟨W.heap.size, 0, rfl, ?_⟩
    rw [Nat.zero_add]
    rcases (by omega : i = 0 ∨ i = 1 ∨ i = 2) with rfl | rfl | rfl <;> exact box_cell (Below.refl _ _) rfl, fun u hu => by
    simp only [List.mem_cons, List.not_mem_nil, or_false] at hu
    rcases hu with rfl | rfl | rfl <;> assumption⟩

theorem own_lit1 {W : World} {a : Int} (ha : I64 a) : Own oI W.heap.size (W.heap.size + 1) (W.alloc (.cells #[.int .i64 a] 3)) [.slice (some ⟨W.heap.size, 0, none⟩) 1 1] [a] := by
  have h : OwnInts W.heap.size (W.alloc (.cells #[.int .i64 a] 3)) (.slice (some ⟨W.heap.size, 0, none⟩) 1 1) 1 [a] :=
    ⟨rfl, ⟨rfl, .inr ⟨W.heap.size, 1, #[.int .i64 a], rfl, Nat.le_refl _, heap_alloc_new W _, Nat.le_refl _, by unfold maxLen; omega, rfl, rfl⟩⟩, by intro x hx; simp at hx; rcases hx with rfl; assumption⟩
  have h9 := h.own
  simpa using h9

theorem own_lit3 {W : World} {a b c : Int} (ha : I64 a) (hb : I64 b) (hc : I64 c) : Own oI W.heap.size (W.heap.size + 1) (W.alloc (.cells #[.int .i64 a, .int .i64 b, .int .i64 c] 3)) [.slice (some ⟨W.heap.size, 0, none⟩) 3 3] [a, b, c] := by
  have h : OwnInts W.heap.size (W.alloc (.cells #[.int .i64 a, .int .i64 b, .int .i64 c] 3)) (.slice (some ⟨W.heap.size, 0, none⟩) 3 3) 3 [a, b, c] :=
    ⟨rfl, ⟨rfl, .inr ⟨W.heap.size, 3, #[.int .i64 a, .int .i64 b, .int .i64 c], rfl, Nat.le_refl _, heap_alloc_new W _, Nat.le_refl _, by unfold maxLen; omega, rfl, rfl⟩⟩, by intro x hx; simp at hx; rcases hx with rfl | rfl | rfl <;> assumption⟩
  have h9 := h.own
  simpa using h9

theorem own_rowT {lo hi h1 h2 : Nat} {W W1 : World} {v : Value} {ys : List (List Int)} {b : Option Addr} {n0 c0 : Nat} {r : List Int} (ty : TypeId) (h : Own oII lo hi W [v] ys) (hr : Own oI h1 h2 W [.slice b n0 c0] r) (hh2 : h2 ≤ W.heap.size) (hlo : lo ≤ hi) (hh1 : hi ≤ h1) (hhi : h1 ≤ h2) (hn : ys.length ≤ 1000000) (hW1 : W1 = W.alloc (.cells #[.slice b n0 c0] 27)) :
    ∃ a n c w', (Builtin.append_ #[39, 39] ty #[v, .slice (some ⟨W.heap.size, 0, none⟩) 1 1]).run Tryz.prog W1 = .ok (.slice a n c) w' ∧ Own oII lo w'.heap.size w' [.slice a n c] (ys ++ [r]) ∧ Turn lo hi W w' ∧ W.heap.size < w'.heap.size ∧ ∀ (p : Addr) (u : Value), hi ≤ p.block → p.block < h1 → Own oII lo w'.heap.size (w'.setCell p u) [.slice a n c] (ys ++ [r]) := by
  obtain ⟨fu, a2, a4, a9⟩ := h
  obtain ⟨fr, b2, b4, b9⟩ := hr
  obtain ⟨a, n, c, w', fu', hrun, c1, c2, c3, c4, ⟨c5, c6, c7⟩, c8⟩ := run_app_fp (W := W) (W1 := W1) Tryz.underlying39 infoRow3 rfl (by decide) (by decide) (o' := oI) rfl ty v ys [.slice b n0 c0] r fu fr a2 a4 b2 b4 (fun k hk hk2 => by have := a9 k hk2; have := b9 k hk; omega) (by intro z hz; simp at hz; subst hz; rfl) (by omega) hW1
  have hr2 : ∀ k ∈ fu', lo ≤ k ∧ k < w'.heap.size := fun k hk => by
    rcases c3 k hk with h9 | h9 | h9
    · have := a9 k h9; omega
    · have := b9 k h9; omega
    · omega
  refine ⟨a, n, c, w', hrun, ⟨fu', c1, c2, hr2⟩, ⟨c5, c6, c7, by omega, fun k h1 hk => c8 k h1 (fun hk2 => by have := a9 k hk2; omega)⟩, c4, fun p u hp hp2 => ⟨fu', OS.frame oII c1 (fun k hk => Below.heap_setCell _ _ _ _ (fun e => ?_)), c2, hr2⟩⟩
  rcases c3 k hk with h9 | h9 | h9
  · have := a9 k h9; omega
  · have := b9 k h9; omega
  · omega

def AnyT (w w' : World) (cb : Nat) (ba : Option Addr) (bn bc : Nat) (e : Ending) : Prop :=
  ∃ (nm : ByteArray) (a : Int) (b : Option Addr) (n c : Nat) (rows : List (List Int)), e = .returned (.agg #[.string nm, .int .i64 a, .slice b n c]) ∧ nm.size ≤ 5 ∧ -1 ≤ a ∧ a ≤ 4 ∧ Own oII w.heap.size w'.heap.size w' [.slice b n c] rows ∧ rows.length ≤ 10 ∧ (∀ r ∈ rows, r.length ≤ 3 ∧ ∀ v ∈ r, 0 ≤ v ∧ v ≤ 1000000) ∧ Cur w' cb ba bn bc ∧ Turn cb (cb + 1) w w'

set_option maxRecDepth 100000 in
set_option maxHeartbeats 2000000 in
theorem l4Any_any (w : World) (cb : Nat) (ba : Option Addr) (bn bc : Nat) (HC : Cur w cb ba bn bc) (hcb : cb < w.heap.size) :
    Calls Tryz.prog 66 #[.pointer (some ⟨cb, 0, none⟩)] w fun e w' => AnyT w w' cb ba bn bc e := by
  have ht0 : Turn cb (cb + 1) w w := (Kept.refl cb (cb + 1) w).turn
  go_enter Tryz.func66, Tryz.ntmps66
  obtain ⟨w1, hw1⟩ : ∃ W, W = w.alloc (.cells #[.string (ByteArray.mk #[]), .int .i64 0, .slice none 0 0] 41) := ⟨_, rfl⟩
  have z1 : Below w.heap.size w w1 := by rw [hw1]; exact (Below.refl _ _).alloc (Nat.le_refl _) _
  have s1 : w1.heap.size = w.heap.size + 1 := by rw [hw1]; simp
  have hb1 := turn_on' ht0 (z1.mono (by omega))
  replace HC := HC.below' z1 (by omega)
  have R_0 : w1.cell? ⟨w.heap.size, 0, none⟩ = some (.string (ByteArray.mk #[])) := by rw [hw1]; exact box_cell (Below.refl _ _) rfl
  have R_1 : w1.cell? ⟨w.heap.size, 1, none⟩ = some (.int .i64 0) := by rw [hw1]; exact box_cell (Below.refl _ _) rfl
  have R_2 : w1.cell? ⟨w.heap.size, 2, none⟩ = some (.slice none 0 0) := by rw [hw1]; exact box_cell (Below.refl _ _) rfl
  have R_f0 : w1.frozen? ⟨w.heap.size, 0, none⟩ = false := by rw [hw1]; exact box_frozen (Below.refl _ _)
  have R_f1 : w1.frozen? ⟨w.heap.size, 1, none⟩ = false := by rw [hw1]; exact box_frozen (Below.refl _ _)
  have R_f2 : w1.frozen? ⟨w.heap.size, 2, none⟩ = false := by rw [hw1]; exact box_frozen (Below.refl _ _)
  have raw1_R_0 := R_0
  have raw1_R_1 := R_1
  have raw1_R_2 := R_2
  rw [hw1] at raw1_R_0 raw1_R_1 raw1_R_2
  obtain ⟨w2, hw2⟩ : ∃ W, W = w1.alloc (.cells #[.string (ByteArray.mk #[114]), .string (ByteArray.mk #[115]), .string (ByteArray.mk #[116])] 9) := ⟨_, rfl⟩
  have z2 : Below w1.heap.size w1 w2 := by rw [hw2]; exact (Below.refl _ _).alloc (Nat.le_refl _) _
  have s2 : w2.heap.size = w1.heap.size + 1 := by rw [hw2]; simp
  have hb2 := turn_on' hb1 (z2.mono (by omega))
  replace HC := HC.below' z2 (by omega)
  replace R_0 := bxc z2 R_0
  replace R_1 := bxc z2 R_1
  replace R_2 := bxc z2 R_2
  replace R_f0 := bxf z2 R_f0
  replace R_f1 := bxf z2 R_f1
  replace R_f2 := bxf z2 R_f2
  have e2 : w1.heap.size = w.heap.size + 1 := by omega
  have N_0 : w2.cell? ⟨w1.heap.size, 0, none⟩ = some (.string (ByteArray.mk #[114])) := by rw [hw2]; exact box_cell (Below.refl _ _) rfl
  have N_1 : w2.cell? ⟨w1.heap.size, 1, none⟩ = some (.string (ByteArray.mk #[115])) := by rw [hw2]; exact box_cell (Below.refl _ _) rfl
  have N_2 : w2.cell? ⟨w1.heap.size, 2, none⟩ = some (.string (ByteArray.mk #[116])) := by rw [hw2]; exact box_cell (Below.refl _ _) rfl
  rw [e2] at N_0 N_1 N_2
  have raw2_R_0 := R_0
  have raw2_R_1 := R_1
  have raw2_R_2 := R_2
  have raw2_N_0 := N_0
  have raw2_N_1 := N_1
  have raw2_N_2 := N_2
  rw [hw2, hw1] at raw2_R_0 raw2_R_1 raw2_R_2 raw2_N_0 raw2_N_1 raw2_N_2
  have HN : Hid (∀ i, i < 3 → ∃ s, s ∈ [ByteArray.mk #[114], ByteArray.mk #[115], ByteArray.mk #[116]] ∧ w2.cell? ⟨w.heap.size + 1, i, none⟩ = some (.string s)) := Lib.hid (fun i hi => by
    rcases (by omega : i = 0 ∨ i = 1 ∨ i = 2) with rfl | rfl | rfl
    · exact ⟨ByteArray.mk #[114], by simp, N_0⟩
    · exact ⟨ByteArray.mk #[115], by simp, N_1⟩
    · exact ⟨ByteArray.mk #[116], by simp, N_2⟩)
  clear N_0 N_1 N_2
  go_wp2_with fail
  rw [← hw1]
  rw [← hw2]
  clear hw2 hw1
  clear raw1_R_0 raw1_R_1 raw1_R_2 raw2_R_0 raw2_R_1 raw2_R_2 raw2_N_0 raw2_N_1 raw2_N_2
  have HC_o := HC
  clear HC
  refine (l1Pick_any _ cb ba bn bc (w.heap.size + 1) 3 3 _ (by omega) (by omega) HN.out (by omega) HC_o).mono ?_
  rintro e w3 ⟨nm, rfl, hnm, HC, z3⟩
  clear HC_o
  have s4 := Nat.le_of_eq z3.size
  have s4' := Nat.le_of_eq z3.size.symm
  replace z3 := z3.turn
  have hb4 := hb2.trans z3
  replace R_0 := txc z3 R_0
  replace R_1 := txc z3 R_1
  replace R_2 := txc z3 R_2
  replace R_f0 := txf z3 R_f0
  replace R_f1 := txf z3 R_f1
  replace R_f2 := txf z3 R_f2
  have hns : nm.size ≤ 5 := by
    simp only [List.mem_cons, List.not_mem_nil, or_false] at hnm
    rcases hnm with rfl | rfl | rfl <;> decide
  clear hnm HN
  go_wp2_with fail
  have HC_o := HC
  clear HC
  refine (l1Below_any _ cb ba bn bc 3 (by omega) HC_o).mono ?_
  rintro e w5 ⟨k0, rfl, hk0, hk1, hk2, HC, z5⟩
  clear HC_o
  have s6 := Nat.le_of_eq z5.size
  have s6' := Nat.le_of_eq z5.size.symm
  replace z5 := z5.turn
  have hb6 := hb4.trans z5
  replace R_0 := txc z5 R_0
  replace R_1 := txc z5 R_1
  replace R_2 := txc z5 R_2
  replace R_f0 := txf z5 R_f0
  replace R_f1 := txf z5 R_f1
  replace R_f2 := txf z5 R_f2
  obtain ⟨K, rfl⟩ := Int.eq_ofNat_of_zero_le hk0
  have hK : K ≤ 2 := by have := hk1 (by omega); omega
  clear hk0 hk1 hk2
  go_wp2_with fail
  rw [show (1 : Int) + (K : Int) = ((1 + K : Nat) : Int) by omega]
  have HBT : Hid (w5.heap.size = w5.heap.size) := Lib.hid rfl
  obtain ⟨lo4, hlo4⟩ : ∃ q, q = w5.heap.size := ⟨_, rfl⟩
  have HC_o := HC
  clear HC
  refine (l4Tab_any _ cb ba bn bc nm (1 + K) 6 4 (by omega) (by omega) (by omega) HC_o (by omega)).mono ?_
  rintro e w7 ⟨b, n, c, rows, rfl, ho, hrl, hrr, HC, z7⟩
  clear HC_o
  have s8 := z7.size
  have hb8 := hb6.trans z7
  replace R_0 := txc z7 R_0
  replace R_1 := txc z7 R_1
  replace R_2 := txc z7 R_2
  replace R_f0 := txf z7 R_f0
  replace R_f1 := txf z7 R_f1
  replace R_f2 := txf z7 R_f2
  rw [← hlo4] at ho
  obtain ⟨hi5, hhi5⟩ : ∃ q, q = w7.heap.size := ⟨_, rfl⟩
  rw [← hhi5] at ho
  have hlh : w.heap.size + 1 + 1 ≤ lo4 := by omega
  have hlh2 : lo4 ≤ hi5 := by omega
  have HRR := Lib.hid hrr
  clear hrr HBT
  obtain ⟨w9, hw9⟩ : ∃ W, W = w7.alloc (.cells #[.string nm, .int .i64 (1 + (K : Int)), .slice b n c] 41) := ⟨_, rfl⟩
  have z9 : Below w7.heap.size w7 w9 := by rw [hw9]; exact (Below.refl _ _).alloc (Nat.le_refl _) _
  have s9 : w9.heap.size = w7.heap.size + 1 := by rw [hw9]; simp
  have hb9 := turn_on' hb8 (z9.mono (by omega))
  have old9_R_0 := R_0
  have old9_R_1 := R_1
  have old9_R_2 := R_2
  replace HC := HC.below' z9 (by omega)
  replace R_0 := bxc z9 R_0
  replace R_1 := bxc z9 R_1
  replace R_2 := bxc z9 R_2
  replace R_f0 := bxf z9 R_f0
  replace R_f1 := bxf z9 R_f1
  replace R_f2 := bxf z9 R_f2
  replace ho := ho.below z9 (by omega)
  have X_0 : w9.cell? ⟨w7.heap.size, 0, none⟩ = some (.string nm) := by rw [hw9]; exact box_cell (Below.refl _ _) rfl
  have X_1 : w9.cell? ⟨w7.heap.size, 1, none⟩ = some (.int .i64 (1 + (K : Int))) := by rw [hw9]; exact box_cell (Below.refl _ _) rfl
  have X_2 : w9.cell? ⟨w7.heap.size, 2, none⟩ = some (.slice b n c) := by rw [hw9]; exact box_cell (Below.refl _ _) rfl
  have X_f0 : w9.frozen? ⟨w7.heap.size, 0, none⟩ = false := by rw [hw9]; exact box_frozen (Below.refl _ _)
  have X_f1 : w9.frozen? ⟨w7.heap.size, 1, none⟩ = false := by rw [hw9]; exact box_frozen (Below.refl _ _)
  have X_f2 : w9.frozen? ⟨w7.heap.size, 2, none⟩ = false := by rw [hw9]; exact box_frozen (Below.refl _ _)
  have raw9_R_0 := R_0
  have raw9_R_1 := R_1
  have raw9_R_2 := R_2
  have raw9_X_0 := X_0
  have raw9_X_1 := X_1
  have raw9_X_2 := X_2
  rw [hw9] at raw9_R_0 raw9_R_1 raw9_R_2 raw9_X_0 raw9_X_1 raw9_X_2
  go_wp2_with fail
  rw [← hw9]
  clear hw9
  clear old9_R_0 old9_R_1 old9_R_2 raw9_R_0 raw9_R_1 raw9_R_2 raw9_X_0 raw9_X_1 raw9_X_2
  have HC_o := HC
  clear HC
  refine (l1Below_any _ cb ba bn bc 12 (by omega) HC_o).mono ?_
  rintro e w10 ⟨k1, rfl, hq0, hq1, hq2, HC, z10⟩
  clear HC_o
  have s11 := Nat.le_of_eq z10.size
  have s11' := Nat.le_of_eq z10.size.symm
  replace z10 := z10.turn
  have hb11 := hb9.trans z10
  replace R_0 := txc z10 R_0
  replace R_1 := txc z10 R_1
  replace R_2 := txc z10 R_2
  replace R_f0 := txf z10 R_f0
  replace R_f1 := txf z10 R_f1
  replace R_f2 := txf z10 R_f2
  replace ho := ho.turn z10 (by omega)
  replace X_0 := txc z10 X_0
  replace X_1 := txc z10 X_1
  replace X_2 := txc z10 X_2
  replace X_f0 := txf z10 X_f0
  replace X_f1 := txf z10 X_f1
  replace X_f2 := txf z10 X_f2
  clear hq0 hq1 hq2
  by_cases a0 : k1 = 0
  · subst a0
    obtain ⟨w12, hw12⟩ : ∃ W, W = w10.alloc (.cells #[.string (ByteArray.mk #[]), .string (ByteArray.mk #[82]), .string (ByteArray.mk #[114, 115]), .string (ByteArray.mk #[122])] 9) := ⟨_, rfl⟩
    have z12 : Below w10.heap.size w10 w12 := by rw [hw12]; exact (Below.refl _ _).alloc (Nat.le_refl _) _
    have s12 : w12.heap.size = w10.heap.size + 1 := by rw [hw12]; simp
    have hb12 := turn_on' hb11 (z12.mono (by omega))
    have old12_R_0 := R_0
    have old12_R_1 := R_1
    have old12_R_2 := R_2
    have old12_X_0 := X_0
    have old12_X_1 := X_1
    have old12_X_2 := X_2
    replace HC := HC.below' z12 (by omega)
    replace R_0 := bxc z12 R_0
    replace R_1 := bxc z12 R_1
    replace R_2 := bxc z12 R_2
    replace R_f0 := bxf z12 R_f0
    replace R_f1 := bxf z12 R_f1
    replace R_f2 := bxf z12 R_f2
    replace ho := ho.below z12 (by omega)
    replace X_0 := bxc z12 X_0
    replace X_1 := bxc z12 X_1
    replace X_2 := bxc z12 X_2
    replace X_f0 := bxf z12 X_f0
    replace X_f1 := bxf z12 X_f1
    replace X_f2 := bxf z12 X_f2
    have L_0 : w12.cell? ⟨w10.heap.size, 0, none⟩ = some (.string (ByteArray.mk #[])) := by rw [hw12]; exact box_cell (Below.refl _ _) rfl
    have L_1 : w12.cell? ⟨w10.heap.size, 1, none⟩ = some (.string (ByteArray.mk #[82])) := by rw [hw12]; exact box_cell (Below.refl _ _) rfl
    have L_2 : w12.cell? ⟨w10.heap.size, 2, none⟩ = some (.string (ByteArray.mk #[114, 115])) := by rw [hw12]; exact box_cell (Below.refl _ _) rfl
    have L_3 : w12.cell? ⟨w10.heap.size, 3, none⟩ = some (.string (ByteArray.mk #[122])) := by rw [hw12]; exact box_cell (Below.refl _ _) rfl
    have raw12_R_0 := R_0
    have raw12_R_1 := R_1
    have raw12_R_2 := R_2
    have raw12_X_0 := X_0
    have raw12_X_1 := X_1
    have raw12_X_2 := X_2
    have raw12_L_0 := L_0
    have raw12_L_1 := L_1
    have raw12_L_2 := L_2
    have raw12_L_3 := L_3
    rw [hw12] at raw12_R_0 raw12_R_1 raw12_R_2 raw12_X_0 raw12_X_1 raw12_X_2 raw12_L_0 raw12_L_1 raw12_L_2 raw12_L_3
    have HN : Hid (∀ i, i < 4 → ∃ s, s ∈ [ByteArray.mk #[], ByteArray.mk #[82], ByteArray.mk #[114, 115], ByteArray.mk #[122]] ∧ w12.cell? ⟨w10.heap.size, i, none⟩ = some (.string s)) := Lib.hid (fun i hi => by
      rcases (by omega : i = 0 ∨ i = 1 ∨ i = 2 ∨ i = 3) with rfl | rfl | rfl | rfl
      · exact ⟨ByteArray.mk #[], by simp, L_0⟩
      · exact ⟨ByteArray.mk #[82], by simp, L_1⟩
      · exact ⟨ByteArray.mk #[114, 115], by simp, L_2⟩
      · exact ⟨ByteArray.mk #[122], by simp, L_3⟩)
    clear L_0 L_1 L_2 L_3
    go_wp2_with fail
    rw [← hw12]
    clear hw12
    clear old12_R_0 old12_R_1 old12_R_2 old12_X_0 old12_X_1 old12_X_2 raw12_R_0 raw12_R_1 raw12_R_2 raw12_X_0 raw12_X_1 raw12_X_2 raw12_L_0 raw12_L_1 raw12_L_2 raw12_L_3
    have HC_o := HC
    clear HC
    refine (l1Pick_any _ cb ba bn bc _ 4 4 _ (by omega) (by omega) HN.out (by omega) HC_o).mono ?_
    rintro e w13 ⟨x, rfl, hx, HC, z13⟩
    clear HC_o
    have s14 := Nat.le_of_eq z13.size
    have s14' := Nat.le_of_eq z13.size.symm
    replace z13 := z13.turn
    have hb14 := hb12.trans z13
    replace R_0 := txc z13 R_0
    replace R_1 := txc z13 R_1
    replace R_2 := txc z13 R_2
    replace R_f0 := txf z13 R_f0
    replace R_f1 := txf z13 R_f1
    replace R_f2 := txf z13 R_f2
    replace ho := ho.turn z13 (by omega)
    replace X_0 := txc z13 X_0
    replace X_1 := txc z13 X_1
    replace X_2 := txc z13 X_2
    replace X_f0 := txf z13 X_f0
    replace X_f1 := txf z13 X_f1
    replace X_f2 := txf z13 X_f2
    have hxs : x.size ≤ 5 := by
      simp only [List.mem_cons, List.not_mem_nil, or_false] at hx
      rcases hx with rfl | rfl | rfl | rfl <;> decide
    clear hx HN
    go_wp2_with fail
    refine bodyPost_ret (v := .agg #[.string x, .int .i64 (1 + (K : Int)), .slice b n c]) (by simp [results, Tryz.results66, go_sem, R_0, R_1, R_2, R_f0, R_f1, R_f2]) rfl ⟨x, _, b, n, c, rows, rfl, hxs, by omega, by omega, ?_, by omega, fun r hr => ⟨by have := (HRR.out r hr).1; omega, (HRR.out r hr).2⟩, ?_, ?_⟩
    · refine Own.mono (lo := lo4) (hi := hi5) ?_ (by omega) (by simp [World.setCell]; omega)
      repeat (refine own_off ?_ rfl (by simp only []; omega))
      exact ho
    · refine Cur.below' (C := w.heap.size) HC ?_ hcb
      repeat (refine Below.setCell ?_ (by simp only []; omega) _)
      exact Below.refl _ _
    · refine turn_on' hb14 ?_
      repeat (refine Below.setCell ?_ (by simp only []; omega) _)
      exact Below.refl _ _
  by_cases a1 : k1 = 1
  · subst a1
    have h3 : Ints (w10.alloc (.cells #[.int .i64 0, .int .i64 4, .int .i64 (-1)] 3)) (some ⟨w10.heap.size, 0, none⟩) 3 [0, 4, -1] := ints_three _ _ _ _ (by constructor <;> decide) (by constructor <;> decide) (by constructor <;> decide)
    have HN0 := Lib.hid h3
    clear h3
    obtain ⟨w15, hw15⟩ : ∃ W, W = w10.alloc (.cells #[.int .i64 0, .int .i64 4, .int .i64 (-1)] 3) := ⟨_, rfl⟩
    have z15 : Below w10.heap.size w10 w15 := by rw [hw15]; exact (Below.refl _ _).alloc (Nat.le_refl _) _
    have s15 : w15.heap.size = w10.heap.size + 1 := by rw [hw15]; simp
    have hb15 := turn_on' hb11 (z15.mono (by omega))
    have old15_R_0 := R_0
    have old15_R_1 := R_1
    have old15_R_2 := R_2
    have old15_X_0 := X_0
    have old15_X_1 := X_1
    have old15_X_2 := X_2
    replace HC := HC.below' z15 (by omega)
    replace R_0 := bxc z15 R_0
    replace R_1 := bxc z15 R_1
    replace R_2 := bxc z15 R_2
    replace R_f0 := bxf z15 R_f0
    replace R_f1 := bxf z15 R_f1
    replace R_f2 := bxf z15 R_f2
    replace ho := ho.below z15 (by omega)
    replace X_0 := bxc z15 X_0
    replace X_1 := bxc z15 X_1
    replace X_2 := bxc z15 X_2
    replace X_f0 := bxf z15 X_f0
    replace X_f1 := bxf z15 X_f1
    replace X_f2 := bxf z15 X_f2
    have L_0 : w15.cell? ⟨w10.heap.size, 0, none⟩ = some (.int .i64 0) := by rw [hw15]; exact box_cell (Below.refl _ _) rfl
    have L_1 : w15.cell? ⟨w10.heap.size, 1, none⟩ = some (.int .i64 4) := by rw [hw15]; exact box_cell (Below.refl _ _) rfl
    have L_2 : w15.cell? ⟨w10.heap.size, 2, none⟩ = some (.int .i64 (-1)) := by rw [hw15]; exact box_cell (Below.refl _ _) rfl
    have raw15_R_0 := R_0
    have raw15_R_1 := R_1
    have raw15_R_2 := R_2
    have raw15_X_0 := X_0
    have raw15_X_1 := X_1
    have raw15_X_2 := X_2
    have raw15_L_0 := L_0
    have raw15_L_1 := L_1
    have raw15_L_2 := L_2
    rw [hw15] at raw15_R_0 raw15_R_1 raw15_R_2 raw15_X_0 raw15_X_1 raw15_X_2 raw15_L_0 raw15_L_1 raw15_L_2
    have HN := HN0.out
    rw [← hw15] at HN
    clear HN0
    clear L_0 L_1 L_2
    go_wp2_with fail
    rw [← hw15]
    clear hw15
    clear old15_R_0 old15_R_1 old15_R_2 old15_X_0 old15_X_1 old15_X_2 raw15_R_0 raw15_R_1 raw15_R_2 raw15_X_0 raw15_X_1 raw15_X_2 raw15_L_0 raw15_L_1 raw15_L_2
    have HC_o := HC
    clear HC
    refine (l1PickInt_any _ cb ba bn bc _ 3 3 _ (by omega) (by omega) HN (by omega) HC_o).mono ?_
    rintro e w16 ⟨x, rfl, hx, HC, z16⟩
    clear HC_o
    have s17 := Nat.le_of_eq z16.size
    have s17' := Nat.le_of_eq z16.size.symm
    replace z16 := z16.turn
    have hb17 := hb15.trans z16
    replace R_0 := txc z16 R_0
    replace R_1 := txc z16 R_1
    replace R_2 := txc z16 R_2
    replace R_f0 := txf z16 R_f0
    replace R_f1 := txf z16 R_f1
    replace R_f2 := txf z16 R_f2
    replace ho := ho.turn z16 (by omega)
    replace X_0 := txc z16 X_0
    replace X_1 := txc z16 X_1
    replace X_2 := txc z16 X_2
    replace X_f0 := txf z16 X_f0
    replace X_f1 := txf z16 X_f1
    replace X_f2 := txf z16 X_f2
    have hxr : -1 ≤ x ∧ x ≤ 4 := by
      simp only [List.mem_cons, List.not_mem_nil, or_false] at hx
      omega
    clear hx HN
    go_wp2_with fail
    refine bodyPost_ret (v := .agg #[.string nm, .int .i64 x, .slice b n c]) (by simp [results, Tryz.results66, go_sem, R_0, R_1, R_2, R_f0, R_f1, R_f2]) rfl ⟨nm, x, b, n, c, rows, rfl, hns, hxr.1, hxr.2, ?_, by omega, fun r hr => ⟨by have := (HRR.out r hr).1; omega, (HRR.out r hr).2⟩, ?_, ?_⟩
    · refine Own.mono (lo := lo4) (hi := hi5) ?_ (by omega) (by simp [World.setCell]; omega)
      repeat (refine own_off ?_ rfl (by simp only []; omega))
      exact ho
    · refine Cur.below' (C := w.heap.size) HC ?_ hcb
      repeat (refine Below.setCell ?_ (by simp only []; omega) _)
      exact Below.refl _ _
    · refine turn_on' hb17 ?_
      repeat (refine Below.setCell ?_ (by simp only []; omega) _)
      exact Below.refl _ _
  by_cases a2 : k1 = 2
  · subst a2
    have oL := own_lit1 (W := w10) (a := 0) (by constructor <;> decide)
    obtain ⟨w18, hw18⟩ : ∃ W, W = w10.alloc (.cells #[.int .i64 0] 3) := ⟨_, rfl⟩
    have z18 : Below w10.heap.size w10 w18 := by rw [hw18]; exact (Below.refl _ _).alloc (Nat.le_refl _) _
    have s18 : w18.heap.size = w10.heap.size + 1 := by rw [hw18]; simp
    have hb18 := turn_on' hb11 (z18.mono (by omega))
    have old18_R_0 := R_0
    have old18_R_1 := R_1
    have old18_R_2 := R_2
    have old18_X_0 := X_0
    have old18_X_1 := X_1
    have old18_X_2 := X_2
    replace HC := HC.below' z18 (by omega)
    replace R_0 := bxc z18 R_0
    replace R_1 := bxc z18 R_1
    replace R_2 := bxc z18 R_2
    replace R_f0 := bxf z18 R_f0
    replace R_f1 := bxf z18 R_f1
    replace R_f2 := bxf z18 R_f2
    replace ho := ho.below z18 (by omega)
    replace X_0 := bxc z18 X_0
    replace X_1 := bxc z18 X_1
    replace X_2 := bxc z18 X_2
    replace X_f0 := bxf z18 X_f0
    replace X_f1 := bxf z18 X_f1
    replace X_f2 := bxf z18 X_f2
    have L_0 : w18.cell? ⟨w10.heap.size, 0, none⟩ = some (.int .i64 0) := by rw [hw18]; exact box_cell (Below.refl _ _) rfl
    have raw18_R_0 := R_0
    have raw18_R_1 := R_1
    have raw18_R_2 := R_2
    have raw18_X_0 := X_0
    have raw18_X_1 := X_1
    have raw18_X_2 := X_2
    have raw18_L_0 := L_0
    rw [hw18] at raw18_R_0 raw18_R_1 raw18_R_2 raw18_X_0 raw18_X_1 raw18_X_2 raw18_L_0
    rw [← hw18] at oL
    obtain ⟨na, nn, nc, wn, hrn, _, hzn, hzs, on_⟩ := own_rowT 39 ho oL (by omega) (by omega) (by omega) (by omega) (by omega) rfl
    rw [s18] at hrn
    rw [hw18] at hrn
    have s19 := hzn.size
    have hq19 := hzn.below (by omega)
    have hb19 := turn_on' hb18 (hq19.mono (by omega))
    replace HC := HC.below' hq19 (by omega)
    replace R_0 := txc hzn R_0
    replace R_1 := txc hzn R_1
    replace R_2 := txc hzn R_2
    replace R_f0 := txf hzn R_f0
    replace R_f1 := txf hzn R_f1
    replace R_f2 := txf hzn R_f2
    replace X_0 := txc hzn X_0
    replace X_1 := txc hzn X_1
    replace X_2 := txc hzn X_2
    replace X_f0 := txf hzn X_f0
    replace X_f1 := txf hzn X_f1
    replace X_f2 := txf hzn X_f2
    obtain ⟨xn, hxn⟩ : ∃ q, q = wn.heap.size := ⟨_, rfl⟩
    rw [← hxn] at on_
    go_wp2_with ((at_builtin; refine wpList_app_run hrn rfl rfl rfl rfl rfl ?_))
    refine bodyPost_ret (v := .agg #[.string nm, .int .i64 (1 + (K : Int)), .slice na nn nc]) (by simp [results, Tryz.results66, go_sem, R_0, R_1, R_2, R_f0, R_f1, R_f2]) rfl ⟨nm, _, na, nn, nc, rows ++ [[0]], rfl, hns, by omega, by omega, ?_, by rw [List.length_append]; simp; omega, fun r hr => ?_, ?_, ?_⟩
    · refine Own.mono (lo := lo4) (hi := xn) ?_ (by omega) (by simp [World.setCell]; omega)
      repeat (refine own_off (p := ⟨w.heap.size, _, none⟩) ?_ rfl (by simp only []; omega))
      exact on_ _ _ (by simp only []; omega) (by simp only []; omega)
    · rcases List.mem_append.1 hr with hr | hr
      · exact ⟨by have := (HRR.out r hr).1; omega, (HRR.out r hr).2⟩
      · simp at hr; subst hr; exact ⟨by simp, by intro v hv; simp at hv; omega⟩
    · refine Cur.below' (C := w.heap.size) HC ?_ hcb
      repeat (refine Below.setCell ?_ (by simp only []; omega) _)
      exact Below.refl _ _
    · refine turn_on' hb19 ?_
      repeat (refine Below.setCell ?_ (by simp only []; omega) _)
      exact Below.refl _ _
  by_cases a3 : k1 = 3
  · subst a3
    have oL := own_lit3 (W := w10) (a := 9) (b := 9) (c := 10) (by constructor <;> decide) (by constructor <;> decide) (by constructor <;> decide)
    obtain ⟨w20, hw20⟩ : ∃ W, W = w10.alloc (.cells #[.int .i64 9, .int .i64 9, .int .i64 10] 3) := ⟨_, rfl⟩
    have z20 : Below w10.heap.size w10 w20 := by rw [hw20]; exact (Below.refl _ _).alloc (Nat.le_refl _) _
    have s20 : w20.heap.size = w10.heap.size + 1 := by rw [hw20]; simp
    have hb20 := turn_on' hb11 (z20.mono (by omega))
    have old20_R_0 := R_0
    have old20_R_1 := R_1
    have old20_R_2 := R_2
    have old20_X_0 := X_0
    have old20_X_1 := X_1
    have old20_X_2 := X_2
    replace HC := HC.below' z20 (by omega)
    replace R_0 := bxc z20 R_0
    replace R_1 := bxc z20 R_1
    replace R_2 := bxc z20 R_2
    replace R_f0 := bxf z20 R_f0
    replace R_f1 := bxf z20 R_f1
    replace R_f2 := bxf z20 R_f2
    replace ho := ho.below z20 (by omega)
    replace X_0 := bxc z20 X_0
    replace X_1 := bxc z20 X_1
    replace X_2 := bxc z20 X_2
    replace X_f0 := bxf z20 X_f0
    replace X_f1 := bxf z20 X_f1
    replace X_f2 := bxf z20 X_f2
    have L_0 : w20.cell? ⟨w10.heap.size, 0, none⟩ = some (.int .i64 9) := by rw [hw20]; exact box_cell (Below.refl _ _) rfl
    have L_1 : w20.cell? ⟨w10.heap.size, 1, none⟩ = some (.int .i64 9) := by rw [hw20]; exact box_cell (Below.refl _ _) rfl
    have L_2 : w20.cell? ⟨w10.heap.size, 2, none⟩ = some (.int .i64 10) := by rw [hw20]; exact box_cell (Below.refl _ _) rfl
    have raw20_R_0 := R_0
    have raw20_R_1 := R_1
    have raw20_R_2 := R_2
    have raw20_X_0 := X_0
    have raw20_X_1 := X_1
    have raw20_X_2 := X_2
    have raw20_L_0 := L_0
    have raw20_L_1 := L_1
    have raw20_L_2 := L_2
    rw [hw20] at raw20_R_0 raw20_R_1 raw20_R_2 raw20_X_0 raw20_X_1 raw20_X_2 raw20_L_0 raw20_L_1 raw20_L_2
    rw [← hw20] at oL
    obtain ⟨na, nn, nc, wn, hrn, _, hzn, hzs, on_⟩ := own_rowT 39 ho oL (by omega) (by omega) (by omega) (by omega) (by omega) rfl
    rw [s20] at hrn
    rw [hw20] at hrn
    have s21 := hzn.size
    have hq21 := hzn.below (by omega)
    have hb21 := turn_on' hb20 (hq21.mono (by omega))
    replace HC := HC.below' hq21 (by omega)
    replace R_0 := txc hzn R_0
    replace R_1 := txc hzn R_1
    replace R_2 := txc hzn R_2
    replace R_f0 := txf hzn R_f0
    replace R_f1 := txf hzn R_f1
    replace R_f2 := txf hzn R_f2
    replace X_0 := txc hzn X_0
    replace X_1 := txc hzn X_1
    replace X_2 := txc hzn X_2
    replace X_f0 := txf hzn X_f0
    replace X_f1 := txf hzn X_f1
    replace X_f2 := txf hzn X_f2
    obtain ⟨xn, hxn⟩ : ∃ q, q = wn.heap.size := ⟨_, rfl⟩
    rw [← hxn] at on_
    go_wp2_with ((at_builtin; refine wpList_app_run hrn rfl rfl rfl rfl rfl ?_))
    refine bodyPost_ret (v := .agg #[.string nm, .int .i64 (1 + (K : Int)), .slice na nn nc]) (by simp [results, Tryz.results66, go_sem, R_0, R_1, R_2, R_f0, R_f1, R_f2]) rfl ⟨nm, _, na, nn, nc, rows ++ [[9, 9, 10]], rfl, hns, by omega, by omega, ?_, by rw [List.length_append]; simp; omega, fun r hr => ?_, ?_, ?_⟩
    · refine Own.mono (lo := lo4) (hi := xn) ?_ (by omega) (by simp [World.setCell]; omega)
      repeat (refine own_off (p := ⟨w.heap.size, _, none⟩) ?_ rfl (by simp only []; omega))
      exact on_ _ _ (by simp only []; omega) (by simp only []; omega)
    · rcases List.mem_append.1 hr with hr | hr
      · exact ⟨by have := (HRR.out r hr).1; omega, (HRR.out r hr).2⟩
      · simp at hr; subst hr; exact ⟨by simp, by intro v hv; simp at hv; omega⟩
    · refine Cur.below' (C := w.heap.size) HC ?_ hcb
      repeat (refine Below.setCell ?_ (by simp only []; omega) _)
      exact Below.refl _ _
    · refine turn_on' hb21 ?_
      repeat (refine Below.setCell ?_ (by simp only []; omega) _)
      exact Below.refl _ _
  have n0 : (k1 == 0) = false := by rw [beq_eq_false_iff_ne]; exact a0
  have n1 : (k1 == 1) = false := by rw [beq_eq_false_iff_ne]; exact a1
  have n2 : (k1 == 2) = false := by rw [beq_eq_false_iff_ne]; exact a2
  have n3 : (k1 == 3) = false := by rw [beq_eq_false_iff_ne]; exact a3
  go_wp2_with fail
  refine bodyPost_ret (v := .agg #[.string nm, .int .i64 (1 + (K : Int)), .slice b n c]) (by simp [results, Tryz.results66, go_sem, R_0, R_1, R_2, R_f0, R_f1, R_f2]) rfl ⟨nm, _, b, n, c, rows, rfl, hns, by omega, by omega, ?_, by omega, fun r hr => ⟨by have := (HRR.out r hr).1; omega, (HRR.out r hr).2⟩, ?_, ?_⟩
  · refine Own.mono (lo := lo4) (hi := hi5) ?_ (by omega) (by simp [World.setCell]; omega)
    repeat (refine own_off ?_ rfl (by simp only []; omega))
    exact ho
  · refine Cur.below' (C := w.heap.size) HC ?_ hcb
    repeat (refine Below.setCell ?_ (by simp only []; omega) _)
    exact Below.refl _ _
  · refine turn_on' hb11 ?_
    repeat (refine Below.setCell ?_ (by simp only []; omega) _)
    exact Below.refl _ _

end Go.Proofs.YtpgfkjcekhifiaaGreatDoor

namespace Go.Proofs.YtpgfkjcekhifiaaGreatDoor

open Go.RowKit Go.Sort

set_option linter.unusedVariables false

set_option linter.unusedSimpArgs false

set_option synthInstance.maxSize 2000

set_option synthInstance.maxHeartbeats 400000

theorem look_none_valid {db : DDb} {name : ByteArray} (h : look db name = none) (hv : validDb db = true) : idxFrom name 0 db = -1 := by
  rcases look_none_idx h with h1 | ⟨k, h1, h2⟩
  · exact h1
  · rw [hv] at h2; cases h2

set_option maxHeartbeats 1000000 in
theorem lookS_none (cs : List Value) (db : DDb) (name : ByteArray) (w : World) (h : rDb.rep w cs db) (hL : look db name = none) :
    Calls Tryz.prog 31 #[.agg cs.toArray, .string name] w fun e w' => e = .returned (.tuple #[.agg noT, .bool false]) ∧ Below w.heap.size w w' := by
  obtain ⟨ub, un, uc, rfl, g1⟩ := rDb_open h
  have hval := fun W (hW : Below w.heap.size w W) => validDb_spec [.slice ub un uc] db W (rDb.mono h hW)
  have t1 := rS_sl g1
  have hl := t1.len
  have hn := t1.small
  have HL := Lib.hid hl
  obtain ⟨q, hq⟩ : ∃ q, validDb db = q := ⟨_, rfl⟩
  simp only [hq] at hval
  have HV := Lib.hid hval
  have HQ : Hid (q = true → idxFrom name 0 db = -1) := Lib.hid (fun h9 => look_none_valid hL (hq.trans h9))
  have HE0 : Hid (idxFrom name 0 db = idxFrom name 0 (db.drop 0)) := rfl
  clear hval hL hq h g1 hl
  have hb0 : Below w.heap.size w w := Below.refl _ _
  go_enter Tryz.func31, Tryz.ntmps31
  obtain ⟨w1, hw1⟩ : ∃ W, W = w.alloc (.cells #[.slice ub un uc] 26) := ⟨_, rfl⟩
  have z1 : Below w.heap.size w w1 := by rw [hw1]; exact (Below.refl _ _).alloc (Nat.le_refl _) _
  have s1 : w1.heap.size = w.heap.size + 1 := by rw [hw1]; simp
  have hb1 := on hb0 z1
  have b_0 : w1.cell? ⟨w.heap.size, 0, none⟩ = some (.slice ub un uc) := by rw [hw1]; exact box_cell (Below.refl _ _) rfl
  have b_f0 : w1.frozen? ⟨w.heap.size, 0, none⟩ = false := by rw [hw1]; exact box_frozen (Below.refl _ _)
  have raw1_b_0 := b_0
  rw [hw1] at raw1_b_0
  obtain ⟨w2, hw2⟩ : ∃ W, W = w1.alloc (.cells #[.string ⟨#[]⟩, .int .i64 0, .slice none 0 0] 41) := ⟨_, rfl⟩
  have z2 : Below w1.heap.size w1 w2 := by rw [hw2]; exact (Below.refl _ _).alloc (Nat.le_refl _) _
  have s2 : w2.heap.size = w1.heap.size + 1 := by rw [hw2]; simp
  have hb2 := on hb1 z2
  replace b_0 := bxc z2 b_0
  replace b_f0 := bxf z2 b_f0
  have e2 : w1.heap.size = w.heap.size + 1 := by omega
  have r_0 : w2.cell? ⟨w1.heap.size, 0, none⟩ = some (.string ⟨#[]⟩) := by rw [hw2]; exact box_cell (Below.refl _ _) rfl
  have r_1 : w2.cell? ⟨w1.heap.size, 1, none⟩ = some (.int .i64 0) := by rw [hw2]; exact box_cell (Below.refl _ _) rfl
  have r_2 : w2.cell? ⟨w1.heap.size, 2, none⟩ = some (.slice none 0 0) := by rw [hw2]; exact box_cell (Below.refl _ _) rfl
  rw [e2] at r_0 r_1 r_2
  have r_f0 : w2.frozen? ⟨w1.heap.size, 0, none⟩ = false := by rw [hw2]; exact box_frozen (Below.refl _ _)
  have r_f1 : w2.frozen? ⟨w1.heap.size, 1, none⟩ = false := by rw [hw2]; exact box_frozen (Below.refl _ _)
  have r_f2 : w2.frozen? ⟨w1.heap.size, 2, none⟩ = false := by rw [hw2]; exact box_frozen (Below.refl _ _)
  rw [e2] at r_f0 r_f1 r_f2
  have raw2_b_0 := b_0
  have raw2_r_0 := r_0
  have raw2_r_1 := r_1
  have raw2_r_2 := r_2
  rw [hw2, hw1] at raw2_b_0 raw2_r_0 raw2_r_1 raw2_r_2
  go_wp2_with fail
  rw [← hw1]
  rw [← hw2]
  clear hw2 hw1
  clear raw1_b_0 raw2_b_0 raw2_r_0 raw2_r_1 raw2_r_2
  go_loopw [6] (fun k wr => ∃ j : Nat, j ≤ un ∧ k = .int .i64 j ∧ Hid (idxFrom name 0 db = idxFrom name j (db.drop j)) ∧ Below w2.heap.size w2 wr) (fun k _ => un - (intOf k).toNat)
  case atStart => exact ⟨0, Nat.zero_le _, rfl, HE0.out, Below.refl _ _⟩
  case round =>
    obtain ⟨j, hj, rfl, hE, hdr⟩ := hrel
    obtain ⟨wo, rfl⟩ : ∃ W, W = wr := ⟨_, rfl⟩
    have hlc := hdr
    have s3 := hdr.size
    have hb3 := on hb2 hdr
    replace b_0 := bxc hdr b_0
    replace b_f0 := bxf hdr b_f0
    replace r_0 := bxc hdr r_0
    replace r_1 := bxc hdr r_1
    replace r_2 := bxc hdr r_2
    replace r_f0 := bxf hdr r_f0
    replace r_f1 := bxf hdr r_f1
    replace r_f2 := bxf hdr r_f2
    by_cases hlt : j < un
    · go_wp2_with fail
      refine (HV.out _ hb3).mono ?_
      rintro e w9 ⟨rfl, z9⟩
      have s4 := z9.size
      have hb4 := on hb3 z9
      replace b_0 := bxc z9 b_0
      replace b_f0 := bxf z9 b_f0
      replace r_0 := bxc z9 r_0
      replace r_1 := bxc z9 r_1
      replace r_2 := bxc z9 r_2
      replace r_f0 := bxf z9 r_f0
      replace r_f1 := bxf z9 r_f1
      replace r_f2 := bxf z9 r_f2
      replace hlc := on hlc z9
      cases q with
      | false =>
        go_wp2_with fail
        refine bodyPost_ret (v := .tuple #[.agg noT, .bool false]) (by simp [results, Tryz.results31, go_sem, noT, r_0, r_1, r_2, r_f0, r_f1, r_f2]) rfl ⟨rfl, ?_⟩
        repeat (refine Below.setCell ?_ (by simp only []; omega) _)
        exact hb4
      | true =>
        obtain ⟨b1, o1, cs, t, rfl, hx, hr, hc⟩ := t1.at hlt
        have hne : t.1 ≠ name := fun h9 => by have h8 := hE.out.trans (idxFrom_yes hx.out h9); rw [HQ.out rfl] at h8; omega
        have HE : Hid (idxFrom name 0 db = idxFrom name (j + 1) (db.drop (j + 1))) := Lib.hid (hE.out.trans (idxFrom_no hx.out hne))
        have hq9 := bytes_ne hne
        obtain ⟨s, i, rows⟩ := t
        obtain ⟨tb, tn, tc, rfl, hs, hi, g2⟩ := rT_open hr
        simp only at hs hi g2 hq9
        have e_lt : b1 < w.heap.size := cell_lt (hc 0 _ rfl)
        have e_0 : w9.cell? ⟨b1, o1 + j * 3, none⟩ = some (.string s) := (hb4.cell (p := ⟨b1, o1 + j * 3, none⟩) e_lt).trans (by have h9 := hc 0 _ rfl; rw [← Nat.add_assoc] at h9; exact h9)
        have e_1 : w9.cell? ⟨b1, o1 + j * 3 + 1, none⟩ = some (.int .i64 i) := (hb4.cell (p := ⟨b1, o1 + j * 3 + 1, none⟩) e_lt).trans (by have h9 := hc 1 _ rfl; rw [← Nat.add_assoc] at h9; exact h9)
        have e_2 : w9.cell? ⟨b1, o1 + j * 3 + 2, none⟩ = some (.slice tb tn tc) := (hb4.cell (p := ⟨b1, o1 + j * 3 + 2, none⟩) e_lt).trans (by have h9 := hc 2 _ rfl; rw [← Nat.add_assoc] at h9; exact h9)
        clear hE hx hr hc g2 t1 hs hi hne
        go_wp2_with fail
        go_roundw
        case rel => exact ⟨j + 1, by omega, by go_num, HE.out, hlc⟩
        case measure => simp [intOf]; omega
    · go_wp2_with fail
      refine bodyPost_ret (v := .tuple #[.agg noT, .bool false]) (by simp [results, Tryz.results31, go_sem, noT, r_0, r_1, r_2, r_f0, r_f1, r_f2]) rfl ⟨rfl, ?_⟩
      repeat (refine Below.setCell ?_ (by simp only []; omega) _)
      exact hb3

set_option maxHeartbeats 1000000 in
theorem lookS_some (cs : List Value) (db : DDb) (name : ByteArray) (t : DT) (w : World) (h : rDb.rep w cs db) (hL : look db name = some t) :
    Calls Tryz.prog 31 #[.agg cs.toArray, .string name] w fun e w' => ∃ ds, e = .returned (.tuple #[.agg ds.toArray, .bool true]) ∧ Own oT w.heap.size w'.heap.size w' ds t ∧ Below w.heap.size w w' := by
  obtain ⟨ub, un, uc, rfl, g1⟩ := rDb_open h
  have hval := fun W (hW : Below w.heap.size w W) => validDb_spec [.slice ub un uc] db W (rDb.mono h hW)
  have hbk := (look_ok hL).bulk
  obtain ⟨k, HI, hk, hv⟩ := look_some_idx hL
  have t1 := rS_sl g1
  have hl := t1.len
  have hn := t1.small
  have hkn : k < un := by rw [← hl]; exact (List.getElem?_eq_some_iff.1 hk).1
  have HL := Lib.hid hl
  simp only [hv] at hval
  have HV := Lib.hid hval
  have HK := Lib.hid hk
  have HI := Lib.hid HI
  have HE0 : Hid (idxFrom name 0 db = idxFrom name 0 (db.drop 0)) := rfl
  clear hval hL hv hk h g1 hl
  have hb0 : Below w.heap.size w w := Below.refl _ _
  go_enter Tryz.func31, Tryz.ntmps31
  obtain ⟨w1, hw1⟩ : ∃ W, W = w.alloc (.cells #[.slice ub un uc] 26) := ⟨_, rfl⟩
  have z1 : Below w.heap.size w w1 := by rw [hw1]; exact (Below.refl _ _).alloc (Nat.le_refl _) _
  have s1 : w1.heap.size = w.heap.size + 1 := by rw [hw1]; simp
  have hb1 := on hb0 z1
  have b_0 : w1.cell? ⟨w.heap.size, 0, none⟩ = some (.slice ub un uc) := by rw [hw1]; exact box_cell (Below.refl _ _) rfl
  have b_f0 : w1.frozen? ⟨w.heap.size, 0, none⟩ = false := by rw [hw1]; exact box_frozen (Below.refl _ _)
  have raw1_b_0 := b_0
  rw [hw1] at raw1_b_0
  obtain ⟨w2, hw2⟩ : ∃ W, W = w1.alloc (.cells #[.string ⟨#[]⟩, .int .i64 0, .slice none 0 0] 41) := ⟨_, rfl⟩
  have z2 : Below w1.heap.size w1 w2 := by rw [hw2]; exact (Below.refl _ _).alloc (Nat.le_refl _) _
  have s2 : w2.heap.size = w1.heap.size + 1 := by rw [hw2]; simp
  have hb2 := on hb1 z2
  replace b_0 := bxc z2 b_0
  replace b_f0 := bxf z2 b_f0
  have e2 : w1.heap.size = w.heap.size + 1 := by omega
  have r_0 : w2.cell? ⟨w1.heap.size, 0, none⟩ = some (.string ⟨#[]⟩) := by rw [hw2]; exact box_cell (Below.refl _ _) rfl
  have r_1 : w2.cell? ⟨w1.heap.size, 1, none⟩ = some (.int .i64 0) := by rw [hw2]; exact box_cell (Below.refl _ _) rfl
  have r_2 : w2.cell? ⟨w1.heap.size, 2, none⟩ = some (.slice none 0 0) := by rw [hw2]; exact box_cell (Below.refl _ _) rfl
  rw [e2] at r_0 r_1 r_2
  have r_f0 : w2.frozen? ⟨w1.heap.size, 0, none⟩ = false := by rw [hw2]; exact box_frozen (Below.refl _ _)
  have r_f1 : w2.frozen? ⟨w1.heap.size, 1, none⟩ = false := by rw [hw2]; exact box_frozen (Below.refl _ _)
  have r_f2 : w2.frozen? ⟨w1.heap.size, 2, none⟩ = false := by rw [hw2]; exact box_frozen (Below.refl _ _)
  rw [e2] at r_f0 r_f1 r_f2
  have raw2_b_0 := b_0
  have raw2_r_0 := r_0
  have raw2_r_1 := r_1
  have raw2_r_2 := r_2
  rw [hw2, hw1] at raw2_b_0 raw2_r_0 raw2_r_1 raw2_r_2
  go_wp2_with fail
  rw [← hw1]
  rw [← hw2]
  clear hw2 hw1
  clear raw1_b_0 raw2_b_0 raw2_r_0 raw2_r_1 raw2_r_2
  go_loopw [6] (fun k wr => ∃ j : Nat, j ≤ un ∧ k = .int .i64 j ∧ Hid (idxFrom name 0 db = idxFrom name j (db.drop j)) ∧ Below w2.heap.size w2 wr) (fun k _ => un - (intOf k).toNat)
  case atStart => exact ⟨0, Nat.zero_le _, rfl, HE0.out, Below.refl _ _⟩
  case round =>
    obtain ⟨j, hj, rfl, hE, hdr⟩ := hrel
    obtain ⟨wo, rfl⟩ : ∃ W, W = wr := ⟨_, rfl⟩
    have hlc := hdr
    have s3 := hdr.size
    have hb3 := on hb2 hdr
    replace b_0 := bxc hdr b_0
    replace b_f0 := bxf hdr b_f0
    replace r_0 := bxc hdr r_0
    replace r_1 := bxc hdr r_1
    replace r_2 := bxc hdr r_2
    replace r_f0 := bxf hdr r_f0
    replace r_f1 := bxf hdr r_f1
    replace r_f2 := bxf hdr r_f2
    by_cases hlt : j < un
    · go_wp2_with fail
      refine (HV.out _ hb3).mono ?_
      rintro e w9 ⟨rfl, z9⟩
      have s4 := z9.size
      have hb4 := on hb3 z9
      replace b_0 := bxc z9 b_0
      replace b_f0 := bxf z9 b_f0
      replace r_0 := bxc z9 r_0
      replace r_1 := bxc z9 r_1
      replace r_2 := bxc z9 r_2
      replace r_f0 := bxf z9 r_f0
      replace r_f1 := bxf z9 r_f1
      replace r_f2 := bxf z9 r_f2
      replace hlc := on hlc z9
      obtain ⟨b1, o1, cs, t', rfl, hx, hr, hc⟩ := t1.at hlt
      by_cases hne : t'.1 = name
      · have h8 := hE.out.trans (idxFrom_yes hx.out hne)
        rw [HI.out] at h8
        obtain rfl : k = j := by omega
        obtain rfl : t' = t := by have h9 := hx.out; rw [HK.out] at h9; exact (Option.some.inj h9).symm
        have hcp := fun W (hW : Below w.heap.size w W) => l4Copy_any cs t' W (rT.mono hr hW) (by omega)
        have hq9 : (t'.1.toList == name.toList) = true := by rw [hne]; simp
        obtain ⟨s, i, rows⟩ := t'
        obtain ⟨tb, tn, tc, rfl, hs, hi, g2⟩ := rT_open hr
        simp only at hs hi g2 hcp hq9
        have HP := Lib.hid hcp
        have e_lt : b1 < w.heap.size := cell_lt (hc 0 _ rfl)
        have e_0 : w9.cell? ⟨b1, o1 + k * 3, none⟩ = some (.string s) := (hb4.cell (p := ⟨b1, o1 + k * 3, none⟩) e_lt).trans (by have h9 := hc 0 _ rfl; rw [← Nat.add_assoc] at h9; exact h9)
        have e_1 : w9.cell? ⟨b1, o1 + k * 3 + 1, none⟩ = some (.int .i64 i) := (hb4.cell (p := ⟨b1, o1 + k * 3 + 1, none⟩) e_lt).trans (by have h9 := hc 1 _ rfl; rw [← Nat.add_assoc] at h9; exact h9)
        have e_2 : w9.cell? ⟨b1, o1 + k * 3 + 2, none⟩ = some (.slice tb tn tc) := (hb4.cell (p := ⟨b1, o1 + k * 3 + 2, none⟩) e_lt).trans (by have h9 := hc 2 _ rfl; rw [← Nat.add_assoc] at h9; exact h9)
        clear hcp hE hx hr hc g2 t1 hs hi hne h8
        go_wp2_with fail
        refine (HP.out _ hb4).mono ?_
        rintro e w11 ⟨ds, rfl, ho, z11⟩
        obtain ⟨vb, vn, vc, rfl⟩ := oT_form ho
        simp only at ho
        have s5 := z11.size
        have hb5 := on hb4 z11
        replace b_0 := bxc z11 b_0
        replace b_f0 := bxf z11 b_f0
        replace r_0 := bxc z11 r_0
        replace r_1 := bxc z11 r_1
        replace r_2 := bxc z11 r_2
        replace r_f0 := bxf z11 r_f0
        replace r_f1 := bxf z11 r_f1
        replace r_f2 := bxf z11 r_f2
        replace hlc := on hlc z11
        replace e_0 := bxc z11 e_0
        replace e_1 := bxc z11 e_1
        replace e_2 := bxc z11 e_2
        go_wp2_with fail
        refine bodyPost_ret (v := .tuple #[.agg #[.string s, .int .i64 i, .slice vb vn vc], .bool true]) (by simp [results, Tryz.results31, go_sem, r_0, r_1, r_2, r_f0, r_f1, r_f2]) rfl ⟨_, rfl, ?_, ?_⟩
        · refine Own.mono (lo := w9.heap.size) (hi := w11.heap.size) ?_ (by omega) (by simp [World.setCell])
          repeat (refine Own.setOut ?_ rfl (by simp only []; omega))
          exact ho
        · repeat (refine Below.setCell ?_ (by simp only []; omega) _)
          exact hb5
      · have HE : Hid (idxFrom name 0 db = idxFrom name (j + 1) (db.drop (j + 1))) := Lib.hid (hE.out.trans (idxFrom_no hx.out hne))
        have hq9 := bytes_ne hne
        obtain ⟨s, i, rows⟩ := t'
        obtain ⟨tb, tn, tc, rfl, hs, hi, g2⟩ := rT_open hr
        simp only at hs hi g2 hq9
        have e_lt : b1 < w.heap.size := cell_lt (hc 0 _ rfl)
        have e_0 : w9.cell? ⟨b1, o1 + j * 3, none⟩ = some (.string s) := (hb4.cell (p := ⟨b1, o1 + j * 3, none⟩) e_lt).trans (by have h9 := hc 0 _ rfl; rw [← Nat.add_assoc] at h9; exact h9)
        have e_1 : w9.cell? ⟨b1, o1 + j * 3 + 1, none⟩ = some (.int .i64 i) := (hb4.cell (p := ⟨b1, o1 + j * 3 + 1, none⟩) e_lt).trans (by have h9 := hc 1 _ rfl; rw [← Nat.add_assoc] at h9; exact h9)
        have e_2 : w9.cell? ⟨b1, o1 + j * 3 + 2, none⟩ = some (.slice tb tn tc) := (hb4.cell (p := ⟨b1, o1 + j * 3 + 2, none⟩) e_lt).trans (by have h9 := hc 2 _ rfl; rw [← Nat.add_assoc] at h9; exact h9)
        clear hE hx hr hc g2 t1 hs hi hne
        go_wp2_with fail
        go_roundw
        case rel => exact ⟨j + 1, by omega, by go_num, HE.out, hlc⟩
        case measure => simp [intOf]; omega
    · have h8 := hE.out.trans (idxFrom_end (by have := HL.out; omega))
      rw [HI.out] at h8
      omega

end Go.Proofs.YtpgfkjcekhifiaaGreatDoor

namespace Go.Proofs.YtpgfkjcekhifiaaGreatDoor

open Go.RowKit

set_option linter.unusedVariables false

set_option linter.unusedSimpArgs false

set_option synthInstance.maxSize 2000

set_option synthInstance.maxHeartbeats 400000

theorem OS.rows_take {α : Type} (o : OS α) {w : World} : ∀ {css : List (List Value)} {xs : List α} {fps : List (List Nat)} (h : o.rows w css xs fps) (i : Nat), o.rows w (css.take i) (xs.take i) (fps.take i)
  | [], [], [], _, _ => by simp [OS.rows]
  | _ :: _, _ :: _, _ :: _, h, 0 => by simp [OS.rows]
  | _ :: _, _ :: _, _ :: _, h, i + 1 => by simp only [List.take_succ_cons]; exact ⟨h.1, o.rows_take h.2 i⟩

theorem OS.rows_put {α : Type} (o : OS α) {w w' : World} {c' : List Value} {x' : α} {f' : List Nat} (hr : o.rep w' c' x' f') : ∀ {css : List (List Value)} {xs : List α} {fps : List (List Nat)} (h : o.rows w css xs fps) (i : Nat), (∀ k ∈ fps.flatten, w'.heap[k]? = w.heap[k]?) → o.rows w' (css.set i c') (xs.set i x') (fps.set i f')
  | [], [], [], _, _, _ => by simp [OS.rows]
  | _ :: _, _ :: _, _ :: _, h, 0, hk => ⟨hr, o.rows_frame h.2 fun k hm => hk k (by simp only [List.flatten_cons]; exact List.mem_append_right _ hm)⟩
  | _ :: _, _ :: _, _ :: _, h, i + 1, hk => ⟨o.frame h.1 fun k hm => hk k (by simp only [List.flatten_cons]; exact List.mem_append_left _ hm), o.rows_put hr h.2 i fun k hm => hk k (by simp only [List.flatten_cons]; exact List.mem_append_right _ hm)⟩

theorem set_flatten {f' : List Nat} : ∀ {fps : List (List Nat)} (i : Nat), fps.flatten.Nodup → f'.Nodup → (∀ k ∈ f', k ∉ fps.flatten) → (fps.set i f').flatten.Nodup ∧ ∀ k ∈ (fps.set i f').flatten, k ∈ fps.flatten ∨ k ∈ f'
  | [], _, _, _, _ => by simp
  | f :: fs, 0, hn, hn', hd => by
    simp only [List.flatten_cons] at hn hd
    have h9 := List.nodup_append.1 hn
    refine ⟨?_, fun k hk => ?_⟩
    · simp only [List.set_cons_zero, List.flatten_cons]
      exact List.nodup_append.2 ⟨hn', h9.2.1, fun a ha b hb e => hd a ha (List.mem_append_right _ (e ▸ hb))⟩
    · simp only [List.set_cons_zero, List.flatten_cons] at hk ⊢
      rcases List.mem_append.1 hk with hk | hk
      · exact .inr hk
      · exact .inl (List.mem_append_right _ hk)
  | f :: fs, i + 1, hn, hn', hd => by
    simp only [List.flatten_cons] at hn hd
    have h9 := List.nodup_append.1 hn
    obtain ⟨i1, i2⟩ := set_flatten (fps := fs) i h9.2.1 hn' (fun k hk hm => hd k hk (List.mem_append_right _ hm))
    refine ⟨?_, fun k hk => ?_⟩
    · simp only [List.set_cons_succ, List.flatten_cons]
      refine List.nodup_append.2 ⟨h9.1, i1, fun a ha b hb e => ?_⟩
      subst e
      rcases i2 a hb with h8 | h8
      · exact h9.2.2 a ha a h8 rfl
      · exact hd a h8 (List.mem_append_left _ ha)
    · simp only [List.set_cons_succ, List.flatten_cons] at hk ⊢
      rcases List.mem_append.1 hk with hk | hk
      · exact .inl (List.mem_append_left _ hk)
      · rcases i2 k hk with h8 | h8
        · exact .inl (List.mem_append_right _ h8)
        · exact .inr h8

theorem own_put {α : Type} {t : TypeId} {o : OS α} {lo hi : Nat} {w : World} {a : Option Addr} {n cap : Nat} {xs : List α} (h : Own (O.slice t o) lo hi w [.slice a n cap] xs) {i : Nat} {x : α} (hx : xs[i]? = some x) :
    ∃ g c f pre post E, a = some ⟨g, 0, none⟩ ∧ lo ≤ g ∧ g < hi ∧ g < w.heap.size ∧ o.rep w c x f ∧ pre.length = i * o.size ∧ w.heap[g]? = some (.cells (pre ++ (c ++ post)).toArray E) ∧ (f.Nodup ∧ ∀ k ∈ f, lo ≤ k ∧ k < hi ∧ k ≠ g) ∧
      ∀ w' x' c' h1 h2, Own o h1 h2 w' c' x' → hi ≤ h1 → h1 ≤ h2 → w'.heap[g]? = some (.cells (pre ++ (c' ++ post)).toArray E) → (∀ k, lo ≤ k → k < hi → k ≠ g → w'.heap[k]? = w.heap[k]?) → Own (O.slice t o) lo h2 w' [.slice a n cap] (xs.set i x') := by
  obtain ⟨fp, h, hn, hrng⟩ := h
  have hlt := (O.slice t o).lt h
  obtain ⟨v, css, fps, hv, rfl, h1, h2⟩ := h
  simp at hv
  subst hv
  obtain ⟨c, f, hc, hf, hr⟩ := o.rows_get h2 i x hx
  have hnl := List.nodup_append.1 hn
  have hmem : ∀ k ∈ f, k ∈ fps.flatten := fun k hk => List.mem_flatten.2 ⟨f, List.mem_of_getElem? hf, hk⟩
  have hsub : f.Sublist fps.flatten := List.sublist_flatten_of_mem (List.mem_of_getElem? hf)
  have hix := (List.getElem?_eq_some_iff.1 hx).1
  have hic := (List.getElem?_eq_some_iff.1 hc).1
  rcases h1.2 with ⟨hv, h0⟩ | ⟨g, cap', cur, hv, hB, hg, hnc, hcm, hcs, htake⟩
  · omega
  simp at hv
  obtain ⟨rfl, rfl, rfl⟩ := hv
  have hcl := o.len hr
  have hgfp : g ∉ fps.flatten := fun hm => hnl.2.2 g (by simp [bl, Value.ownBlock]) g hm rfl
  have hsplit : css = css.take i ++ c :: css.drop (i + 1) := by
    conv => lhs; rw [← List.take_append_drop i css]
    rw [List.drop_eq_getElem_cons hic]
    congr 2
    exact (List.getElem?_eq_some_iff.1 hc).2
  have hpre : ((css.take i).flatten).length = i * o.size := by
    rw [(o.rows_len (o.rows_take h2 i)).2.2, List.length_take, Nat.min_eq_left (by omega)]
  have hgr := hrng g (by simp [bl, Value.ownBlock])
  refine ⟨g, c, f, (css.take i).flatten, (css.drop (i + 1)).flatten ++ cur.toList.drop (xs.length * o.size), t, rfl, hgr.1, hgr.2, hlt g (by simp [bl, Value.ownBlock]), hr, hpre, ?_, ⟨hsub.nodup hnl.2.1, fun k hk => ⟨(hrng k (List.mem_append_right _ (hmem k hk))).1, (hrng k (List.mem_append_right _ (hmem k hk))).2, fun e => hgfp (e ▸ hmem k hk)⟩⟩, ?_⟩
  · rw [hg]
    congr 2
    apply Array.ext'
    simp only []
    conv => lhs; rw [← List.take_append_drop (xs.length * o.size) cur.toList, htake, hsplit]
    simp
  · rintro w' x' c' h1' h2' ⟨f', hr', hn', hb'⟩ hh1 hh2 hg' hk
    have hcl' := o.len hr'
    have hsp' : css.set i c' = css.take i ++ c' :: css.drop (i + 1) := by
      rw [List.set_eq_take_append_cons_drop, if_pos hic]
    have hdis : ∀ k ∈ f', k ∉ fps.flatten := fun k hk1 hk2 => by
      have := hb' k hk1
      have := hrng k (List.mem_append_right _ hk2)
      omega
    obtain ⟨hsn, hsm⟩ := set_flatten i hnl.2.1 hn' hdis
    refine ⟨bl (.slice (some ⟨g, 0, none⟩) xs.length cap) ++ (fps.set i f').flatten, ⟨_, css.set i c', fps.set i f', rfl, rfl, ?_, ?_⟩, ?_, ?_⟩
    · refine ⟨?_, .inr ⟨g, cap, _, by rw [List.length_set], hB, hg', by rw [List.length_set]; exact hnc, hcm, ?_, ?_⟩⟩
      · have h9 := h1.1
        rw [hsplit] at h9
        rw [hsp', List.length_set]
        simp only [List.flatten_append, List.flatten_cons, List.length_append] at h9 ⊢
        omega
      · have h9 := h1.1
        rw [hsplit] at h9
        simp only [List.flatten_append, List.flatten_cons, List.length_append] at h9
        have h8 := Nat.mul_le_mul_right o.size hnc
        simp only [List.size_toArray, List.length_append, List.length_drop, Array.length_toList]
        omega
      · have h9 := h1.1
        rw [hsplit] at h9
        simp only [List.flatten_append, List.flatten_cons, List.length_append] at h9
        rw [List.length_set, hsp']
        simp only [List.flatten_append, List.flatten_cons]
        rw [show (css.take i).flatten ++ (c' ++ ((css.drop (i + 1)).flatten ++ cur.toList.drop (xs.length * o.size))) = ((css.take i).flatten ++ (c' ++ (css.drop (i + 1)).flatten)) ++ cur.toList.drop (xs.length * o.size) by simp]
        rw [List.take_append_of_le_length (by simp only [List.length_append]; omega), List.take_of_length_le (by simp only [List.length_append]; omega)]
    · exact o.rows_put hr' h2 i fun k hm => hk k (hrng k (List.mem_append_right _ hm)).1 (hrng k (List.mem_append_right _ hm)).2 (fun e => hgfp (e ▸ hm))
    · refine List.nodup_append.2 ⟨hnl.1, hsn, fun a ha b hb e => ?_⟩
      subst e
      simp [bl, Value.ownBlock] at ha
      subst ha
      rcases hsm a hb with h8 | h8
      · exact hgfp h8
      · have := hb' a h8; omega
    · intro k hk
      rcases List.mem_append.1 hk with hk | hk
      · have := hrng k (List.mem_append_left _ hk); omega
      · rcases hsm k hk with h8 | h8
        · have := hrng k (List.mem_append_right _ h8); omega
        · have := hb' k h8; omega

theorem infoTb : (Tryz.prog.info? 41).map (fun i => (i.zero, i.size, i.bytes)) = some (some (.agg #[.string ⟨#[]⟩, .int .i64 0, .slice none 0 0]), 3, 48) := by kernel_rfl

theorem own_tab {lo hi h1 h2 : Nat} {W W1 : World} {v : Value} {ys : List DT} {cs : List Value} {r : DT} (ty : TypeId) (h : Own oTl lo hi W [v] ys) (hr : Own oT h1 h2 W cs r) (hh2 : h2 ≤ W.heap.size) (hlo : lo ≤ hi) (hh1 : hi ≤ h1) (hhi : h1 ≤ h2) (hn : ys.length ≤ 1000000) (hW1 : W1 = W.alloc (.cells cs.toArray 41)) :
    ∃ a n c w', (Builtin.append_ #[24, 24] ty #[v, .slice (some ⟨W.heap.size, 0, none⟩) 1 1]).run Tryz.prog W1 = .ok (.slice a n c) w' ∧ Own oTl lo w'.heap.size w' [.slice a n c] (ys ++ [r]) ∧ Turn lo hi W w' ∧ W.heap.size < w'.heap.size ∧ ∀ (p : Addr) (u : Value), hi ≤ p.block → p.block < h1 → Own oTl lo w'.heap.size (w'.setCell p u) [.slice a n c] (ys ++ [r]) := by
  have hrr := hr
  obtain ⟨fu, a2, a4, a9⟩ := h
  obtain ⟨fr, b2, b4, b9⟩ := hr
  obtain ⟨a, n, c, w', fu', hrun, c1, c2, c3, c4, ⟨c5, c6, c7⟩, c8⟩ := run_app_fp (W := W) (W1 := W1) Tryz.underlying24 infoTb rfl (by decide) (by decide) (o' := oT) rfl ty v ys cs r fu fr a2 a4 b2 b4 (fun k hk hk2 => by have := a9 k hk2; have := b9 k hk; omega) (by
    obtain ⟨q1, q2, q3, e⟩ := oT_form hrr
    subst e
    intro z hz
    simp only [List.mem_cons, List.not_mem_nil, or_false] at hz
    rcases hz with rfl | rfl | rfl <;> rfl) (by omega) hW1
  have hr2 : ∀ k ∈ fu', lo ≤ k ∧ k < w'.heap.size := fun k hk => by
    rcases c3 k hk with h9 | h9 | h9
    · have := a9 k h9; omega
    · have := b9 k h9; omega
    · omega
  refine ⟨a, n, c, w', hrun, ⟨fu', c1, c2, hr2⟩, ⟨c5, c6, c7, by omega, fun k h1 hk => c8 k h1 (fun hk2 => by have := a9 k hk2; omega)⟩, c4, fun p u hp hp2 => ⟨fu', OS.frame oTl c1 (fun k hk => Below.heap_setCell _ _ _ _ (fun e => ?_)), c2, hr2⟩⟩
  rcases c3 k hk with h9 | h9 | h9
  · have := a9 k h9; omega
  · have := b9 k h9; omega
  · omega

theorem own_twolit {h1 h2 h3 h4 : Nat} {W : World} {c1 c2 : List Value} {r1 r2 : DT} (k : Own oT h1 h2 W c1 r1) (k2 : Own oT h3 h4 W c2 r2) (h12 : h1 ≤ h2) (h23 : h2 ≤ h3) (h34 : h3 ≤ h4) (hW : h4 ≤ W.heap.size) :
    Own oTl h1 (W.heap.size + 1) (W.alloc (.cells (c1 ++ c2).toArray 41)) [.slice (some ⟨W.heap.size, 0, none⟩) 2 2] [r1, r2] := by
  have hb : Below W.heap.size W (W.alloc (.cells (c1 ++ c2).toArray 41)) := (Below.refl _ _).alloc (Nat.le_refl _) _
  have k' := k.below hb (by omega)
  have k2' := k2.below hb (by omega)
  obtain ⟨f1, a1, n1, b1⟩ := k'
  obtain ⟨f2, a2, n2, b2⟩ := k2'
  have l1 := oT.len a1
  have l2 := oT.len a2
  have e3 : oT.size = 3 := rfl
  refine ⟨W.heap.size :: (f1 ++ f2), ⟨.slice (some ⟨W.heap.size, 0, none⟩) 2 2, [c1, c2], [f1, f2], rfl, by simp [bl, Value.ownBlock], ⟨by simp; omega, .inr ⟨W.heap.size, 2, (c1 ++ c2).toArray, rfl, Nat.zero_le _, heap_alloc_new W _, Nat.le_refl _, by unfold maxLen; omega, by simp; omega, ?_⟩⟩, ⟨a1, a2, trivial⟩⟩, ?_, ?_⟩
  · simp only [List.length_cons, List.length_nil, List.flatten_cons, List.flatten_nil, List.append_nil]
    exact List.take_of_length_le (by simp; omega)
  · refine List.nodup_cons.2 ⟨fun hm => ?_, List.nodup_append.2 ⟨n1, n2, fun a ha b hb e => ?_⟩⟩
    · rcases List.mem_append.1 hm with hm | hm
      · have := b1 _ hm; omega
      · have := b2 _ hm; omega
    · have := b1 a ha; have := b2 b hb; omega
  · intro z hz
    rcases List.mem_cons.1 hz with rfl | hz
    · omega
    · rcases List.mem_append.1 hz with hz | hz
      · have := b1 z hz; omega
      · have := b2 z hz; omega

theorem one_T {W : World} {c : List Value} {y : DT} {f : List Nat} (h : oT.rep W c y f) : ∀ u ∈ c, u.oneCell' = true := by
  obtain ⟨q1, q2, q3, e⟩ := rT_form (reads_T.2 h)
  subst e
  intro z hz
  simp only [List.mem_cons, List.not_mem_nil, or_false] at hz
  rcases hz with rfl | rfl | rfl <;> rfl

theorem own_tabs {lo hi h1 h2 : Nat} {W : World} {v : Value} {ys zs : List DT} {g m cu : Nat} (ty : TypeId) (h : Own oTl lo hi W [v] ys) (hr : Own oTl h1 h2 W [.slice (some ⟨g, 0, none⟩) m cu] zs) (hh2 : h2 ≤ W.heap.size) (hlo : lo ≤ hi) (hh1 : hi ≤ h1) (hhi : h1 ≤ h2) (hn : ys.length + zs.length ≤ 1000000) :
    ∃ v' w', (Builtin.append_ #[24, 24] ty #[v, .slice (some ⟨g, 0, none⟩) m cu]).run Tryz.prog W = .ok v' w' ∧ Own oTl lo w'.heap.size w' [v'] (ys ++ zs) ∧ Turn lo hi W w' ∧ ∀ (p : Addr) (u : Value), hi ≤ p.block → p.block < h1 → Own oTl lo w'.heap.size (w'.setCell p u) [v'] (ys ++ zs) := by
  obtain ⟨fu, a2, a4, a9⟩ := h
  obtain ⟨fr, b2, b4, b9⟩ := hr
  obtain ⟨v', w', fu', hrun, c1, c2, c3, c4, ⟨c5, c6, c7⟩, c8⟩ := run_app_many (W := W) Tryz.underlying24 infoTb rfl (by decide) (by decide) (o' := oT) rfl (fun h => one_T h) ty v ys g m cu zs fu fr a2 a4 b2 b4 (fun k hk hk2 => by have := a9 k hk2; have := b9 k hk; omega) (by omega)
  have hr2 : ∀ k ∈ fu', lo ≤ k ∧ k < w'.heap.size := fun k hk => by
    rcases c3 k hk with h9 | h9 | h9
    · have := a9 k h9; omega
    · have := b9 k h9; omega
    · omega
  refine ⟨v', w', hrun, ⟨fu', c1, c2, hr2⟩, ⟨c5, c6, c7, c4, fun k h1 hk => c8.1 k h1 (fun hk2 => by have := a9 k hk2; omega)⟩, fun p u hp hp2 => ⟨fu', OS.frame oTl c1 (fun k hk => Below.heap_setCell _ _ _ _ (fun e => ?_)), c2, hr2⟩⟩
  rcases c3 k hk with h9 | h9 | h9
  · have := a9 k h9; omega
  · have := b9 k h9; omega
  · omega

def DrawnDb (lo hi : Nat) (w : World) (b : Option Addr) (n c : Nat) (db : List DT) : Prop :=
  ∃ (g m d k : Nat) (ts : List DT), b = some ⟨g, k * 3, none⟩ ∧ n = m - k ∧ c = d - k ∧ k ≤ m ∧ m ≤ d ∧ Own oTl lo hi w [.slice (some ⟨g, 0, none⟩) m d] ts ∧ db = ts.drop k

theorem DrawnDb.of {lo hi : Nat} {w : World} {g n c : Nat} {ts : List DT} (h : Own oTl lo hi w [.slice (some ⟨g, 0, none⟩) n c] ts) : DrawnDb lo hi w (some ⟨g, 0, none⟩) n c ts := by
  obtain ⟨a, m, d, e, h1, h2, _⟩ := h.rd reads_Tl
  simp only [List.cons.injEq, and_true, Value.slice.injEq] at e
  obtain ⟨_, rfl, rfl⟩ := e
  exact ⟨g, n, c, 0, ts, by simp, by omega, by omega, Nat.zero_le _, h1, h, by simp⟩

theorem DrawnDb.mono {lo hi lo' hi' : Nat} {w : World} {b : Option Addr} {n c : Nat} {db : List DT} (h : DrawnDb lo hi w b n c db) (h1 : lo' ≤ lo) (h2 : hi ≤ hi') : DrawnDb lo' hi' w b n c db := by
  obtain ⟨g, m, d, k, ts, e1, e2, e3, e4, e6, ho, e5⟩ := h
  exact ⟨g, m, d, k, ts, e1, e2, e3, e4, e6, ho.mono h1 h2, e5⟩

theorem DrawnDb.turn {lo hi l2 h2 : Nat} {w w' : World} {b : Option Addr} {n c : Nat} {db : List DT} (h : DrawnDb lo hi w b n c db) (t : Turn l2 h2 w w') (hd : hi ≤ l2 ∨ h2 ≤ lo) : DrawnDb lo hi w' b n c db := by
  obtain ⟨g, m, d, k, ts, e1, e2, e3, e4, e6, ho, e5⟩ := h
  exact ⟨g, m, d, k, ts, e1, e2, e3, e4, e6, ho.turn t (by omega), e5⟩

theorem DrawnDb.below {lo hi C : Nat} {w w' : World} {b : Option Addr} {n c : Nat} {db : List DT} (h : DrawnDb lo hi w b n c db) (t : Below C w w') (hd : hi ≤ C) : DrawnDb lo hi w' b n c db := by
  obtain ⟨g, m, d, k, ts, e1, e2, e3, e4, e6, ho, e5⟩ := h
  exact ⟨g, m, d, k, ts, e1, e2, e3, e4, e6, ho.below t hd, e5⟩

theorem DrawnDb.off {lo hi : Nat} {w w' : World} {b : Option Addr} {n c : Nat} {db : List DT} (h : DrawnDb lo hi w b n c db) {p : Addr} {u : Value} (hw : w' = w.setCell p u) (hp : p.block < lo ∨ hi ≤ p.block) : DrawnDb lo hi w' b n c db := by
  obtain ⟨g, m, d, k, ts, e1, e2, e3, e4, e6, ho, e5⟩ := h
  exact ⟨g, m, d, k, ts, e1, e2, e3, e4, e6, own_off ho hw hp, e5⟩

theorem DrawnDb.rd {lo hi : Nat} {w : World} {b : Option Addr} {n c : Nat} {db : List DT} (h : DrawnDb lo hi w b n c db) : rDb.rep w [.slice b n c] db := by
  obtain ⟨g, m, d, k, ts, rfl, rfl, rfl, e4, e6, ho, rfl⟩ := h
  obtain ⟨a, m', d', e, h1, h2, hs⟩ := ho.rd reads_Tl
  simp only [List.cons.injEq, and_true, Value.slice.injEq] at e
  obtain ⟨rfl, rfl, rfl⟩ := e
  have hl := hs.len
  refine ⟨_, _, _, rfl, by omega, by omega, by rw [List.length_drop]; omega, by omega, fun i x hx => ?_⟩
  rw [List.getElem?_drop] at hx
  obtain ⟨b1, off, cs, ha, hr, hc⟩ := hs.elem (k + i) x hx
  simp only [Option.some.injEq, Addr.mk.injEq] at ha
  obtain ⟨rfl, rfl, _⟩ := ha
  refine ⟨g, k * 3, cs, rfl, hr, fun j u hu => ?_⟩
  have h9 := hc j u hu
  have e3 : rT.size = 3 := rfl
  rw [e3] at h9 ⊢
  rw [show k * 3 + (i * 3 + j) = 0 + ((k + i) * 3 + j) by omega]
  exact h9

end Go.Proofs.YtpgfkjcekhifiaaGreatDoor

namespace Go.Proofs.YtpgfkjcekhifiaaGreatDoor

open Go.RowKit Go.Sort

set_option linter.unusedVariables false

set_option linter.unusedSimpArgs false

set_option synthInstance.maxSize 2000

set_option synthInstance.maxHeartbeats 400000

def lookT (o : Option DT) : DT := o.getD (⟨#[]⟩, 0, [])

theorem lookT_ar {db : DDb} {name : ByteArray} : 0 ≤ (lookT (look db name)).2.1 ∧ (lookT (look db name)).2.1 ≤ 3 := by
  cases h : look db name with
  | none => simp [lookT]
  | some t => have := (look_ok h).ar; simp only [lookT, Option.getD_some]; omega

theorem own_noT (lo hi : Nat) (w : World) : Own oT lo hi w [.string ⟨#[]⟩, .int .i64 0, .slice none 0 0] (⟨#[]⟩, 0, []) :=
  oT_mk (x := (⟨#[]⟩, 0, [])) (by decide) (show I64 0 from by unfold I64; omega) (l2 := lo) (m2 := hi) (Acc.nil (lo := lo) (S := lo) (hi := hi) |>.own (Nat.le_refl _) (Nat.le_refl _) (Nat.le_refl _)) (Nat.le_refl _) (Nat.le_refl _)

theorem lookI_any (cs : List Value) (db : DDb) (name : ByteArray) (w : World) (h : rDb.rep w cs db) :
    Calls Tryz.prog 28 #[.agg cs.toArray, .string name] w fun e w' => ∃ vb vn vc, e = .returned (.tuple #[.agg #[.string (lookT (look db name)).1, .int .i64 (lookT (look db name)).2.1, .slice vb vn vc], .bool (look db name).isSome]) ∧ Own oT w.heap.size w'.heap.size w' [.string (lookT (look db name)).1, .int .i64 (lookT (look db name)).2.1, .slice vb vn vc] (lookT (look db name)) ∧ Below w.heap.size w w' := by
  cases hL : look db name with
  | none =>
    refine (lookI_none cs db name w h hL).mono ?_
    rintro e w1 ⟨rfl, z⟩
    exact ⟨none, 0, 0, rfl, own_noT _ _ _, z⟩
  | some t =>
    refine (lookI_some cs db name t w h hL).mono ?_
    rintro e w1 ⟨ds, rfl, ho, z⟩
    obtain ⟨vb, vn, vc, rfl⟩ := oT_form ho
    exact ⟨vb, vn, vc, rfl, ho, z⟩

theorem lookS_any (cs : List Value) (db : DDb) (name : ByteArray) (w : World) (h : rDb.rep w cs db) :
    Calls Tryz.prog 31 #[.agg cs.toArray, .string name] w fun e w' => ∃ vb vn vc, e = .returned (.tuple #[.agg #[.string (lookT (look db name)).1, .int .i64 (lookT (look db name)).2.1, .slice vb vn vc], .bool (look db name).isSome]) ∧ Own oT w.heap.size w'.heap.size w' [.string (lookT (look db name)).1, .int .i64 (lookT (look db name)).2.1, .slice vb vn vc] (lookT (look db name)) ∧ Below w.heap.size w w' := by
  cases hL : look db name with
  | none =>
    refine (lookS_none cs db name w h hL).mono ?_
    rintro e w1 ⟨rfl, z⟩
    exact ⟨none, 0, 0, rfl, own_noT _ _ _, z⟩
  | some t =>
    refine (lookS_some cs db name t w h hL).mono ?_
    rintro e w1 ⟨ds, rfl, ho, z⟩
    obtain ⟨vb, vn, vc, rfl⟩ := oT_form ho
    exact ⟨vb, vn, vc, rfl, ho, z⟩

end Go.Proofs.YtpgfkjcekhifiaaGreatDoor

namespace Go.Proofs.YtpgfkjcekhifiaaGreatDoor

open Go.RowKit Go.Sort

set_option linter.unusedVariables false

set_option linter.unusedSimpArgs false

set_option synthInstance.maxSize 2000

set_option synthInstance.maxHeartbeats 400000

def validDp (db : DDb) (x : DDp) : Bool := (look db x.1).isSome && (colsB (lookT (look db x.1)).2.1 x.2.1 && (betw x.2.2 0 ((lookT (look db x.1)).2.1 - 1) && !has x.2.1 x.2.2))

theorem look_okT {db : DDb} {name : ByteArray} (h : (look db name).isSome = true) : TOk (lookT (look db name)) := by
  cases hL : look db name with
  | none => rw [hL] at h; cases h
  | some t => exact look_ok hL

theorem look_valid {db : DDb} {name : ByteArray} (h : (look db name).isSome = true) : validT (lookT (look db name)) = true := by
  cases hL : look db name with
  | none => rw [hL] at h; cases h
  | some t =>
    unfold look at hL
    split at hL
    · rename_i hv
      refine dbFrom_mem (p := none) (by have h9 := hv; simp only [validDb, Bool.and_eq_true] at h9; exact h9.1) _ (List.mem_of_find?_eq_some hL)
    · cases hL

set_option maxHeartbeats 1000000 in
theorem validDp_impl (cs ds : List Value) (db : DDb) (x : DDp) (w : World) (h : rDb.rep w cs db) (h' : rDp.rep w ds x) :
    Calls Tryz.prog 11 #[.agg cs.toArray, .agg ds.toArray] w fun e w' => e = .returned (.bool (validDp db x)) ∧ Below w.heap.size w w' := by
  obtain ⟨ub, un, uc, rfl, g1⟩ := rDb_open h
  obtain ⟨fb, fn, fc, rfl, hs0, gf, hi2⟩ := rDp_open h'
  obtain ⟨m1, fr, to⟩ := x
  simp only at hs0 gf hi2
  have i0 := rI_ints gf
  have hA := @lookT_ar db m1
  have hc1 := fun W (hW : Below w.heap.size w W) => lookI_any [.slice ub un uc] db m1 W (rDb.mono h hW)
  have hct := fun (cs : List Value) W (hW : Below w.heap.size w W) (ht : rT.rep W cs (lookT (look db m1))) => l10Cols_any cs (lookT (look db m1)) fb fn fc fr W ht (i0.below hW)
  have HV : Hid (validDp db (m1, fr, to) = ((look db m1).isSome && (colsB (lookT (look db m1)).2.1 fr && (betw to 0 ((lookT (look db m1)).2.1 - 1) && !has fr to)))) := rfl
  have hCT : (look db m1).isSome = true → colsT (lookT (look db m1)) fr = colsB (lookT (look db m1)).2.1 fr := fun h => by rw [colsT, look_valid h, Bool.and_true]
  obtain ⟨p, hp⟩ : ∃ p, (look db m1).isSome = p := ⟨_, rfl⟩
  obtain ⟨t1, ht1⟩ : ∃ t, lookT (look db m1) = t := ⟨_, rfl⟩
  rw [hp, ht1] at HV hCT
  simp only [hp, ht1] at hc1 hA
  simp only [ht1] at hct
  obtain ⟨q, hq⟩ : ∃ q, colsT t1 fr = q := ⟨_, rfl⟩
  rw [hq] at hCT
  simp only [hq] at hct
  obtain ⟨ns, A, r1⟩ := t1
  simp only at hA HV hc1 hCT
  have HC1 := Lib.hid hc1
  have HCT := Lib.hid hct
  have hwA : IntKind.i64.wrap (A - 1) = A - 1 := IntWalk.i64_in _ (by omega)
  obtain ⟨u, hu⟩ : ∃ u, colsB A fr = u := ⟨_, rfl⟩
  obtain ⟨v, hv⟩ : ∃ v, betw to 0 (A - 1) = v := ⟨_, rfl⟩
  obtain ⟨z, hz⟩ : ∃ z, has fr to = z := ⟨_, rfl⟩
  rw [hu] at HV hCT
  rw [hv, hz] at HV
  clear hc1 hct hp ht1 hq h h' g1 gf hs0 hi2
  have hb0 : Below w.heap.size w w := Below.refl _ _
  go_enter Tryz.func11, Tryz.ntmps11
  obtain ⟨w1, hw1⟩ : ∃ W, W = w.alloc (.cells #[.slice ub un uc] 26) := ⟨_, rfl⟩
  have z1 : Below w.heap.size w w1 := by rw [hw1]; exact (Below.refl _ _).alloc (Nat.le_refl _) _
  have s1 : w1.heap.size = w.heap.size + 1 := by rw [hw1]; simp
  have hb1 := on hb0 z1
  have b_0 : w1.cell? ⟨w.heap.size, 0, none⟩ = some (.slice ub un uc) := by rw [hw1]; exact box_cell (Below.refl _ _) rfl
  have raw1_b_0 := b_0
  rw [hw1] at raw1_b_0
  obtain ⟨w2, hw2⟩ : ∃ W, W = w1.alloc (.cells #[.string m1, .slice fb fn fc, .int .i64 to] 29) := ⟨_, rfl⟩
  have z2 : Below w1.heap.size w1 w2 := by rw [hw2]; exact (Below.refl _ _).alloc (Nat.le_refl _) _
  have s2 : w2.heap.size = w1.heap.size + 1 := by rw [hw2]; simp
  have hb2 := on hb1 z2
  replace b_0 := bxc z2 b_0
  have e2 : w1.heap.size = w.heap.size + 1 := by omega
  have x_0 : w2.cell? ⟨w1.heap.size, 0, none⟩ = some (.string m1) := by rw [hw2]; exact box_cell (Below.refl _ _) rfl
  have x_1 : w2.cell? ⟨w1.heap.size, 1, none⟩ = some (.slice fb fn fc) := by rw [hw2]; exact box_cell (Below.refl _ _) rfl
  have x_2 : w2.cell? ⟨w1.heap.size, 2, none⟩ = some (.int .i64 to) := by rw [hw2]; exact box_cell (Below.refl _ _) rfl
  rw [e2] at x_0 x_1 x_2
  have raw2_b_0 := b_0
  have raw2_x_0 := x_0
  have raw2_x_1 := x_1
  have raw2_x_2 := x_2
  rw [hw2, hw1] at raw2_b_0 raw2_x_0 raw2_x_1 raw2_x_2
  go_wp2_with fail
  rw [← hw1]
  rw [← hw2]
  clear hw2 hw1
  clear raw1_b_0 raw2_b_0 raw2_x_0 raw2_x_1 raw2_x_2
  refine (HC1.out _ hb2).mono ?_
  rintro e w9 ⟨vb, vn, vc, rfl, ho, z9⟩
  have s3 := z9.size
  have hb3 := on hb2 z9
  replace b_0 := bxc z9 b_0
  replace x_0 := bxc z9 x_0
  replace x_1 := bxc z9 x_1
  replace x_2 := bxc z9 x_2
  obtain ⟨w4, hw4⟩ : ∃ W, W = w9.alloc (.cells #[.string ns, .int .i64 A, .slice vb vn vc] 41) := ⟨_, rfl⟩
  have z4 : Below w9.heap.size w9 w4 := by rw [hw4]; exact (Below.refl _ _).alloc (Nat.le_refl _) _
  have s4 : w4.heap.size = w9.heap.size + 1 := by rw [hw4]; simp
  have hb4 := on hb3 z4
  have old4_b_0 := b_0
  have old4_x_0 := x_0
  have old4_x_1 := x_1
  have old4_x_2 := x_2
  replace b_0 := bxc z4 b_0
  replace x_0 := bxc z4 x_0
  replace x_1 := bxc z4 x_1
  replace x_2 := bxc z4 x_2
  replace ho := ho.below z4 (by omega)
  have t_0 : w4.cell? ⟨w9.heap.size, 0, none⟩ = some (.string ns) := by rw [hw4]; exact box_cell (Below.refl _ _) rfl
  have t_1 : w4.cell? ⟨w9.heap.size, 1, none⟩ = some (.int .i64 A) := by rw [hw4]; exact box_cell (Below.refl _ _) rfl
  have t_2 : w4.cell? ⟨w9.heap.size, 2, none⟩ = some (.slice vb vn vc) := by rw [hw4]; exact box_cell (Below.refl _ _) rfl
  have raw4_b_0 := b_0
  have raw4_x_0 := x_0
  have raw4_x_1 := x_1
  have raw4_x_2 := x_2
  have raw4_t_0 := t_0
  have raw4_t_1 := t_1
  have raw4_t_2 := t_2
  rw [hw4] at raw4_b_0 raw4_x_0 raw4_x_1 raw4_x_2 raw4_t_0 raw4_t_1 raw4_t_2
  cases p with
  | false =>
    go_wp2_with fail
    rw [← hw4]
    clear hw4
    clear old4_b_0 old4_x_0 old4_x_1 old4_x_2 raw4_b_0 raw4_x_0 raw4_x_1 raw4_x_2 raw4_t_0 raw4_t_1 raw4_t_2
    go_wp2_with fail
    go_ret
    exact ⟨ret_bool (by rw [HV.out]; rfl), hb4⟩
  | true =>
    obtain rfl : q = u := hCT rfl
    have i1 := i0.below hb4
    cases q with
    | false =>
      go_wp2_with fail
      rw [← hw4]
      clear hw4
      clear old4_b_0 old4_x_0 old4_x_1 old4_x_2 raw4_b_0 raw4_x_0 raw4_x_1 raw4_x_2 raw4_t_0 raw4_t_1 raw4_t_2
      refine (columnsOk_any _ _ _ _ _ _ i1 ⟨by omega, by omega⟩ (by omega)).mono ?_
      rintro e w' ⟨rfl, rfl⟩
      rw [hu]
      go_wp2_with fail
      go_ret
      exact ⟨ret_bool (by rw [HV.out]; rfl), hb4⟩
    | true =>
      go_wp2_with fail
      rw [← hw4]
      clear hw4
      clear old4_b_0 old4_x_0 old4_x_1 old4_x_2 raw4_b_0 raw4_x_0 raw4_x_1 raw4_x_2 raw4_t_0 raw4_t_1 raw4_t_2
      refine (columnsOk_any _ _ _ _ _ _ i1 ⟨by omega, by omega⟩ (by omega)).mono ?_
      rintro e w' ⟨rfl, rfl⟩
      rw [hu]
      go_wp2_with fail
      refine (within_any _ _ _ _).mono ?_
      rintro e w' ⟨rfl, rfl⟩
      rw [hv]
      cases v with
      | false =>
        go_wp2_with fail
        go_wp2_with fail
        go_ret
        exact ⟨ret_bool (by rw [HV.out]; rfl), hb4⟩
      | true =>
        go_wp2_with fail
        refine (contains_any _ _ _ _ _ _ i1).mono ?_
        rintro e w' ⟨rfl, rfl⟩
        rw [hz]
        go_wp2_with fail
        go_ret
        exact ⟨ret_bool (by rw [HV.out]; rfl), hb4⟩

set_option maxHeartbeats 1000000 in
theorem validDp_spec (cs ds : List Value) (db : DDb) (x : DDp) (w : World) (h : rDb.rep w cs db) (h' : rDp.rep w ds x) :
    Calls Tryz.prog 10 #[.agg cs.toArray, .agg ds.toArray] w fun e w' => e = .returned (.bool (validDp db x)) ∧ Below w.heap.size w w' := by
  obtain ⟨ub, un, uc, rfl, g1⟩ := rDb_open h
  obtain ⟨fb, fn, fc, rfl, hs0, gf, hi2⟩ := rDp_open h'
  obtain ⟨m1, fr, to⟩ := x
  simp only at hs0 gf hi2
  have i0 := rI_ints gf
  have hA := @lookT_ar db m1
  have hc1 := fun W (hW : Below w.heap.size w W) => lookS_any [.slice ub un uc] db m1 W (rDb.mono h hW)
  have hct := fun (cs : List Value) W (hW : Below w.heap.size w W) (ht : rT.rep W cs (lookT (look db m1))) => l10Cols_any cs (lookT (look db m1)) fb fn fc fr W ht (i0.below hW)
  have HV : Hid (validDp db (m1, fr, to) = ((look db m1).isSome && (colsB (lookT (look db m1)).2.1 fr && (betw to 0 ((lookT (look db m1)).2.1 - 1) && !has fr to)))) := rfl
  have hCT : (look db m1).isSome = true → colsT (lookT (look db m1)) fr = colsB (lookT (look db m1)).2.1 fr := fun h => by rw [colsT, look_valid h, Bool.and_true]
  obtain ⟨p, hp⟩ : ∃ p, (look db m1).isSome = p := ⟨_, rfl⟩
  obtain ⟨t1, ht1⟩ : ∃ t, lookT (look db m1) = t := ⟨_, rfl⟩
  rw [hp, ht1] at HV hCT
  simp only [hp, ht1] at hc1 hA
  simp only [ht1] at hct
  obtain ⟨q, hq⟩ : ∃ q, colsT t1 fr = q := ⟨_, rfl⟩
  rw [hq] at hCT
  simp only [hq] at hct
  obtain ⟨ns, A, r1⟩ := t1
  simp only at hA HV hc1 hCT
  have HC1 := Lib.hid hc1
  have HCT := Lib.hid hct
  have hwA : IntKind.i64.wrap (A - 1) = A - 1 := IntWalk.i64_in _ (by omega)
  obtain ⟨u, hu⟩ : ∃ u, colsB A fr = u := ⟨_, rfl⟩
  obtain ⟨v, hv⟩ : ∃ v, betw to 0 (A - 1) = v := ⟨_, rfl⟩
  obtain ⟨z, hz⟩ : ∃ z, has fr to = z := ⟨_, rfl⟩
  rw [hu] at HV hCT
  rw [hv, hz] at HV
  clear hc1 hct hp ht1 hq h h' g1 gf hs0 hi2
  have hb0 : Below w.heap.size w w := Below.refl _ _
  go_enter Tryz.func10, Tryz.ntmps10
  obtain ⟨w1, hw1⟩ : ∃ W, W = w.alloc (.cells #[.slice ub un uc] 26) := ⟨_, rfl⟩
  have z1 : Below w.heap.size w w1 := by rw [hw1]; exact (Below.refl _ _).alloc (Nat.le_refl _) _
  have s1 : w1.heap.size = w.heap.size + 1 := by rw [hw1]; simp
  have hb1 := on hb0 z1
  have b_0 : w1.cell? ⟨w.heap.size, 0, none⟩ = some (.slice ub un uc) := by rw [hw1]; exact box_cell (Below.refl _ _) rfl
  have raw1_b_0 := b_0
  rw [hw1] at raw1_b_0
  obtain ⟨w2, hw2⟩ : ∃ W, W = w1.alloc (.cells #[.string m1, .slice fb fn fc, .int .i64 to] 29) := ⟨_, rfl⟩
  have z2 : Below w1.heap.size w1 w2 := by rw [hw2]; exact (Below.refl _ _).alloc (Nat.le_refl _) _
  have s2 : w2.heap.size = w1.heap.size + 1 := by rw [hw2]; simp
  have hb2 := on hb1 z2
  replace b_0 := bxc z2 b_0
  have e2 : w1.heap.size = w.heap.size + 1 := by omega
  have x_0 : w2.cell? ⟨w1.heap.size, 0, none⟩ = some (.string m1) := by rw [hw2]; exact box_cell (Below.refl _ _) rfl
  have x_1 : w2.cell? ⟨w1.heap.size, 1, none⟩ = some (.slice fb fn fc) := by rw [hw2]; exact box_cell (Below.refl _ _) rfl
  have x_2 : w2.cell? ⟨w1.heap.size, 2, none⟩ = some (.int .i64 to) := by rw [hw2]; exact box_cell (Below.refl _ _) rfl
  rw [e2] at x_0 x_1 x_2
  have raw2_b_0 := b_0
  have raw2_x_0 := x_0
  have raw2_x_1 := x_1
  have raw2_x_2 := x_2
  rw [hw2, hw1] at raw2_b_0 raw2_x_0 raw2_x_1 raw2_x_2
  go_wp2_with fail
  rw [← hw1]
  rw [← hw2]
  clear hw2 hw1
  clear raw1_b_0 raw2_b_0 raw2_x_0 raw2_x_1 raw2_x_2
  refine (HC1.out _ hb2).mono ?_
  rintro e w9 ⟨vb, vn, vc, rfl, ho, z9⟩
  have s3 := z9.size
  have hb3 := on hb2 z9
  replace b_0 := bxc z9 b_0
  replace x_0 := bxc z9 x_0
  replace x_1 := bxc z9 x_1
  replace x_2 := bxc z9 x_2
  obtain ⟨w4, hw4⟩ : ∃ W, W = w9.alloc (.cells #[.string ns, .int .i64 A, .slice vb vn vc] 41) := ⟨_, rfl⟩
  have z4 : Below w9.heap.size w9 w4 := by rw [hw4]; exact (Below.refl _ _).alloc (Nat.le_refl _) _
  have s4 : w4.heap.size = w9.heap.size + 1 := by rw [hw4]; simp
  have hb4 := on hb3 z4
  have old4_b_0 := b_0
  have old4_x_0 := x_0
  have old4_x_1 := x_1
  have old4_x_2 := x_2
  replace b_0 := bxc z4 b_0
  replace x_0 := bxc z4 x_0
  replace x_1 := bxc z4 x_1
  replace x_2 := bxc z4 x_2
  replace ho := ho.below z4 (by omega)
  have t_0 : w4.cell? ⟨w9.heap.size, 0, none⟩ = some (.string ns) := by rw [hw4]; exact box_cell (Below.refl _ _) rfl
  have t_1 : w4.cell? ⟨w9.heap.size, 1, none⟩ = some (.int .i64 A) := by rw [hw4]; exact box_cell (Below.refl _ _) rfl
  have t_2 : w4.cell? ⟨w9.heap.size, 2, none⟩ = some (.slice vb vn vc) := by rw [hw4]; exact box_cell (Below.refl _ _) rfl
  have raw4_b_0 := b_0
  have raw4_x_0 := x_0
  have raw4_x_1 := x_1
  have raw4_x_2 := x_2
  have raw4_t_0 := t_0
  have raw4_t_1 := t_1
  have raw4_t_2 := t_2
  rw [hw4] at raw4_b_0 raw4_x_0 raw4_x_1 raw4_x_2 raw4_t_0 raw4_t_1 raw4_t_2
  cases p with
  | false =>
    go_wp2_with fail
    rw [← hw4]
    clear hw4
    clear old4_b_0 old4_x_0 old4_x_1 old4_x_2 raw4_b_0 raw4_x_0 raw4_x_1 raw4_x_2 raw4_t_0 raw4_t_1 raw4_t_2
    go_wp2_with fail
    go_ret
    exact ⟨ret_bool (by rw [HV.out]; rfl), hb4⟩
  | true =>
    obtain rfl : q = u := hCT rfl
    have i1 := i0.below hb4
    go_wp2_with fail
    rw [← hw4]
    clear hw4
    clear old4_b_0 old4_x_0 old4_x_1 old4_x_2 raw4_b_0 raw4_x_0 raw4_x_1 raw4_x_2 raw4_t_0 raw4_t_1 raw4_t_2
    refine (HCT.out _ _ hb4 (ho.rd reads_T)).mono ?_
    rintro e w10 ⟨rfl, z10⟩
    have s5 := z10.size
    have hb5 := on hb4 z10
    replace b_0 := bxc z10 b_0
    replace x_0 := bxc z10 x_0
    replace x_1 := bxc z10 x_1
    replace x_2 := bxc z10 x_2
    replace ho := ho.below z10 (by omega)
    replace t_0 := bxc z10 t_0
    replace t_1 := bxc z10 t_1
    replace t_2 := bxc z10 t_2
    clear i1
    have i1 := i0.below hb5
    cases q with
    | false =>
      go_wp2_with fail
      go_wp2_with fail
      go_ret
      exact ⟨ret_bool (by rw [HV.out]; rfl), hb5⟩
    | true =>
      go_wp2_with fail
      go_wp2_with fail
      refine (l1In_any _ _ _ _).mono ?_
      rintro e w' ⟨rfl, rfl⟩
      rw [hv]
      cases v with
      | false =>
        go_wp2_with fail
        go_wp2_with fail
        go_ret
        exact ⟨ret_bool (by rw [HV.out]; rfl), hb5⟩
      | true =>
        go_wp2_with fail
        refine (l7Has_any _ _ _ _ _ _ i1).mono ?_
        rintro e w' ⟨rfl, rfl⟩
        rw [hz]
        go_wp2_with fail
        go_ret
        exact ⟨ret_bool (by rw [HV.out]; rfl), hb5⟩

end Go.Proofs.YtpgfkjcekhifiaaGreatDoor
