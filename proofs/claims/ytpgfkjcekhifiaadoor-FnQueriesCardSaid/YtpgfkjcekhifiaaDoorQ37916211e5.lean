/- Texts joined for one claim: CopyS, Down, Put, Draw3, GrpS, Draw2, Draw4, DbOwn, Draw5. -/
import Derived.Test.YtpgfkjcekhifiaaDoorQc1742dcef0
import Derived.Test.YtpgfkjcekhifiaaDoorQe474a92ab8
import Derived.Test.YtpgfkjcekhifiaaDoorQa4bf20c373
import Derived.Test.YtpgfkjcekhifiaaDoorQade03a00d9
import Derived.Test.YtpgfkjcekhifiaaDoorQ1236d00423
import Derived.Deep.RegionHeld3

/- Contracts: the copy of a table, of the reference. -/
namespace Go.Proofs.YtpgfkjcekhifiaaDoor
open Go.RowKit Go.Sort
set_option linter.unusedVariables false
set_option linter.unusedSimpArgs false
set_option synthInstance.maxSize 2000
set_option synthInstance.maxHeartbeats 400000

/-- A builtin append at a step of a region that draws, by its run. -/
theorem step_app {ops : Array Oper} {o : Oper} {a : Act} {K : Act → World → Prop} {Q : Exit → Act → World → Prop} {E : Prop} {w w' : World} {s x : Operand} {t t' : TypeId} {vs vx v' : Value}
    {ty : TypeId} (hrun : (Builtin.append_ #[t, t'] ty #[vs, vx]).run Tryd.prog w = .ok v' w') (hty : o.type = ty) (hgd : o.guard = none)
    (ho : o.op = .call { callee := .builtin .append, args := #[s, x], argTypes := #[t, t'] }) (hs : a.eval s = vs) (hx : a.eval x = vx)
    (h : K (a.put o.dst v') w') :
    if Region.wanted o (yielded ops a.tmps) = true then Oper.wp Tryd.prog o a w K Q else E := by
  have hw : Region.wanted o (yielded ops a.tmps) = true := by simp [Region.wanted, hgd]
  rw [if_pos hw]
  unfold Oper.wp execOp
  simp only [ho, resolve, invoke, builtin, Sem.run_bind, Sem.run_pure, Result.andThen_ok, List.map_toArray, List.map_cons, List.map_nil, hs, hx, hty, hrun]
  exact h

theorem cell_ad {w : World} {o : Obj} {p : Addr} {v : Value} (h : w.cell? p = some v) : (w.alloc o).cell? p = some v :=
  (((Below.refl _ _).alloc (Nat.le_refl _) o).cell (p := p) (World.block_lt_of_cell? w p h)).trans h
theorem cell_add {w : World} {o : Obj} {p : Addr} {v : Value} (h : w.cell? p = some v) : (w.alloc o).drew.cell? p = some v :=
  (((Below.refl _ _).alloc (Nat.le_refl _) o).drew.cell (p := p) (World.block_lt_of_cell? w p h)).trans h
/-- What a cell holds. -/
def valAt (W : World) (p : Addr) : Value := (W.cell? p).getD undef
theorem valAt_eq {W : World} {p : Addr} {v : Value} (h : W.cell? p = some v) : valAt W p = v := by unfold valAt; rw [h]; rfl
theorem valAt_of {W : World} {p : Addr} {v : Value} (h : W.cell? p = some v) : W.cell? p = some (valAt W p) := by rw [valAt_eq h, h]
theorem valAt_set {W : World} {p q : Addr} {u v : Value} (h : W.cell? q = some v) : (W.setCell p u).cell? q = some (valAt (W.setCell p u) q) := by
  obtain ⟨v', h'⟩ := cell?_setCell_some (p := p) (x := u) h
  exact valAt_of h'
theorem cell_set {W : World} {p q : Addr} {u v : Value} (h : W.cell? q = some v) (hne : q.block ≠ p.block) : (W.setCell p u).cell? q = some v :=
  (World.cell?_of_block (a := q) (Below.heap_setCell _ _ _ _ hne)).trans h
/-- 'append([]int{}, xs...)', run. -/
theorem run_copyI (W W1 : World) (ty : TypeId) (n c : Nat) (ad : Option Addr) (xs : List Int) (hi : Ints W ad n xs) (hn : n ≤ 1000000000000) (hW1 : W1 = W.alloc (.cells #[] 3)) :
    ∃ v' w', (Builtin.append_ #[34, 34] ty #[.slice (some ⟨W.heap.size, 0, none⟩) 0 0, .slice ad n c]).run Tryd.prog W1 = .ok v' w' ∧ Own oI W.heap.size w'.heap.size w' [v'] xs ∧ Below W.heap.size W w' ∧ W.heap.size < w'.heap.size := by
  subst hW1
  obtain ⟨i, hi0, hz0, hz1, hz2⟩ := info_parts infoInt
  have hown := own_empty (Nat.le_refl W.heap.size)
  have hbl : Below W.heap.size W (W.alloc (.cells #[] 3)) := (Below.refl _ _).alloc (Nat.le_refl _) _
  replace hi := hi.below hbl
  cases ad with
  | none =>
    have hn0 : n = 0 := by
      rcases Nat.eq_zero_or_pos n with h0 | h0
      · exact h0
      · obtain ⟨b, off, hb, _⟩ := hi.cell 0 h0; simp at hb
    subst hn0
    have hx0 : xs = [] := List.eq_nil_of_length_eq_zero hi.len
    subst hx0
    have hr : (Builtin.append_ #[34, 34] ty #[.slice (some ⟨W.heap.size, 0, none⟩) 0 0, .slice none 0 c]).run Tryd.prog (W.alloc (.cells #[] 3)) = .ok (.slice (some ⟨W.heap.size, 0, none⟩) 0 0) (W.alloc (.cells #[] 3)) := run_append_room_src (P := Tryd.prog) (W.alloc (.cells #[] 3)) 34 34 ty 3 i Tryd.underlying34 hi0 W.heap.size 0 0 0 (.slice none 0 c) 0 [] (Src.ofNil _ Tryd.underlying34 c) (by omega) (by simp) (by simp)
    exact ⟨_, _, hr, hown.own, hbl, by simp⟩
  | some ad =>
    have hnews : ∀ j u, (xs.map (Value.int .i64))[j]? = some u → (W.alloc (.cells #[] 3)).cell? (ad.add j) = some u := by
      intro j u hu
      rw [List.getElem?_map] at hu
      have hj : j < n := by
        rw [← hi.len]
        rcases Nat.lt_or_ge j xs.length with h1 | h1
        · exact h1
        · rw [List.getElem?_eq_none h1] at hu; simp at hu
      obtain ⟨b, off, hb, hc⟩ := hi.cell j hj
      simp at hb
      subst hb
      rw [List.getD_eq_getElem?_getD] at hc
      rw [List.getElem?_eq_getElem (by rw [hi.len]; exact hj)] at hu hc
      simp at hu
      subst hu
      rw [Addr.add_lit]
      simpa using hc
    obtain ⟨v', w', hrun, h1, h2, _⟩ := run_append_own_at (P := Tryd.prog) (W.alloc (.cells #[] 3)) W.heap.size 34 ty 3 i (.int .i64 0) 1 8 Tryd.underlying34 hi0 hz0 hz1 hz2 rfl (by decide) _ 0 [] (by simpa using hown.row) ad n c (xs.map (Value.int .i64)) (by simp [hi.len]) hnews (by intro z hz; simp at hz; obtain ⟨y, _, rfl⟩ := hz; rfl) (by unfold maxLen; omega) (by omega) (by simp)
    refine ⟨v', w', hrun, (OwnInts.own ⟨hi.len, by simpa using h1, hi.rng⟩), hbl.grown h2 (by simp) (fun k hk => by simp [Value.ownBlock] at hk; omega), ?_⟩
    have := h2.size; simp at this; omega

end Go.Proofs.YtpgfkjcekhifiaaDoor

/- Contracts: ints in descending order, by the reference (l10Down). -/
namespace Go.Proofs.YtpgfkjcekhifiaaDoor
open Go.RowKit
set_option linter.unusedVariables false
set_option linter.unusedSimpArgs false
set_option synthInstance.maxSize 2000
set_option synthInstance.maxHeartbeats 400000

/-- 'append(v, ys...)' on ints of one's own, run: v lies in block g. -/
theorem run_appI (W : World) (B g n c : Nat) (xs : List Int) (ad : Addr) (m c2 : Nat) (ys : List Int) (ty : TypeId) (h : OwnInts B W (.slice (some ⟨g, 0, none⟩) n c) n xs) (hB : B ≤ W.heap.size) (hi : Ints W (some ad) m ys) (hn : n ≤ 1000000000) (hm : m ≤ 1000000000) :
    ∃ g' c' w', (Builtin.append_ #[34, 34] ty #[.slice (some ⟨g, 0, none⟩) n c, .slice (some ad) m c2]).run Tryd.prog W = .ok (.slice (some ⟨g', 0, none⟩) (n + m) c') w' ∧ OwnInts B w' (.slice (some ⟨g', 0, none⟩) (n + m) c') (n + m) (xs ++ ys) ∧ Below B W w' ∧ (g' = g ∨ W.heap.size ≤ g') ∧ ∀ k, k < W.heap.size → k ≠ g → w'.heap[k]? = W.heap[k]? := by
  obtain ⟨i, hi0, hz0, hz1, hz2⟩ := info_parts infoInt
  have hnews : ∀ j u, (ys.map (Value.int .i64))[j]? = some u → W.cell? (ad.add j) = some u := by
    intro j u hu
    rw [List.getElem?_map] at hu
    have hj : j < m := by
      rw [← hi.len]
      rcases Nat.lt_or_ge j ys.length with h1 | h1
      · exact h1
      · rw [List.getElem?_eq_none h1] at hu; simp at hu
    obtain ⟨b, off, hb, hc⟩ := hi.cell j hj
    simp at hb
    subst hb
    rw [List.getD_eq_getElem?_getD] at hc
    rw [List.getElem?_eq_getElem (by rw [hi.len]; exact hj)] at hu hc
    simp at hu
    subst hu
    rw [Addr.add_lit]
    simpa using hc
  obtain ⟨v', w', hrun, h1, h2, h3, h4⟩ := run_append_own_at (P := Tryd.prog) W B 34 ty 3 i (.int .i64 0) 1 8 Tryd.underlying34 hi0 hz0 hz1 hz2 rfl (by decide) _ n _ h.row ad m c2 (ys.map (Value.int .i64)) (by simp [hi.len]) hnews (by intro z hz; simp at hz; obtain ⟨y, _, rfl⟩ := hz; rfl) (by unfold maxLen; omega) (by omega) hB
  obtain ⟨a', cap', rfl, _, _⟩ := own_form h1
  have hlen : (xs ++ ys).length = n + m := by rw [List.length_append, h.len, hi.len]
  have hr : AllI64 (xs ++ ys) := fun x hx => by
    rcases List.mem_append.1 hx with hx | hx
    · exact h.rng x hx
    · exact hi.rng x hx
  rw [← List.map_append] at h1
  rcases h1.2 with ⟨hv, h0⟩ | ⟨g', cap, cur, hv, hB', hg', _⟩
  · have := (h3.1 hv).1; simp at this
  · simp at hv
    obtain ⟨rfl, rfl⟩ := hv
    have hs := h2.size
    refine ⟨g', cap', w', hrun, ⟨hlen, h1, hr⟩, (Below.refl B W).grown h2 hB (fun k hk => (h.row.lt k hk).1), ?_, fun k hk hne => ?_⟩
    · rcases h4 with h4 | h4
      · simp [Value.ownBlock] at h4; exact .inl h4
      · simp [Value.ownBlock] at h4; exact .inr (by omega)
    · exact h2.block k hk (by simp [Value.ownBlock]; omega)
theorem ints_of_block {W w' : World} {b off n : Nat} {xs : List Int} (h : Ints W (some ⟨b, off, none⟩) n xs) (hb : w'.heap[b]? = W.heap[b]?) : Ints w' (some ⟨b, off, none⟩) n xs :=
  ⟨h.len, h.small, fun i hi => by
    obtain ⟨b', o', ha, hc⟩ := h.cell i hi
    simp at ha
    obtain ⟨rfl, rfl⟩ := ha
    exact ⟨b, off, rfl, (World.cell?_of_block (a := ⟨b, off + i, none⟩) hb).trans hc⟩, h.rng⟩
theorem ints_one (W : World) (x : Int) (hx : I64 x) : Ints (W.alloc (.cells #[.int .i64 x] 3)) (some ⟨W.heap.size, 0, none⟩) 1 [x] :=
  ⟨rfl, by omega, fun i hi => by
    obtain rfl : i = 0 := by omega
    refine ⟨W.heap.size, 0, rfl, ?_⟩
    have h := cell_one_new W (.int .i64 x) 3 0 _ rfl
    rw [Addr.add_lit] at h
    exact h, fun y hy => by simp only [List.mem_singleton] at hy; subst hy; exact hx⟩
theorem Ints.dropTo {w : World} {b off n : Nat} {xs : List Int} (h : Ints w (some ⟨b, off, none⟩) n xs) {k : Nat} (hk : k ≤ n) : Ints w (some ⟨b, off + k, none⟩) (n - k) (xs.drop k) := by
  have hl := h.len
  refine ⟨by simp; omega, by have := h.small; omega, fun i hi => ?_, fun x hx => h.rng x (List.mem_of_mem_drop hx)⟩
  obtain ⟨b', o', ha, hc⟩ := h.cell (k + i) (by omega)
  simp at ha
  obtain ⟨rfl, rfl⟩ := ha
  refine ⟨b, off + k, rfl, ?_⟩
  rw [Nat.add_assoc, hc]
  simp [List.getD_eq_getElem?_getD, List.getElem?_drop]

theorem slice_end {g c q j : Nat} {ys : List Int} (hq : q ≤ j) (hc : j ≤ c) : ∃ adr : Addr, (if c = q then some (⟨g, 0, none⟩ : Addr) else some ⟨g, q, none⟩) = some adr ∧ ∀ W, Ints W (some ⟨g, 0, none⟩) j ys → Ints W (some adr) (j - q) (ys.drop q) := by
  by_cases h : c = q
  · refine ⟨⟨g, 0, none⟩, by rw [if_pos h], fun W hi => ?_⟩
    have hl := hi.len
    rw [List.drop_eq_nil_of_le (by omega), show j - q = 0 by omega]
    exact ⟨rfl, by omega, fun i h9 => by omega, fun x hx => by cases hx⟩
  · refine ⟨⟨g, q, none⟩, by rw [if_neg h], fun W hi => ?_⟩
    have := hi.dropTo hq
    rwa [Nat.zero_add] at this

end Go.Proofs.YtpgfkjcekhifiaaDoor

/- Contracts: a row put among rows, by the reference (l4Put). -/
namespace Go.Proofs.YtpgfkjcekhifiaaDoor
open Go.RowKit
set_option linter.unusedVariables false
set_option linter.unusedSimpArgs false
set_option synthInstance.maxSize 2000
set_option synthInstance.maxHeartbeats 400000

theorem putL_at {r x : List Int} {rows : List (List Int)} {j : Nat} (p : Bool) (h : rows[j]? = some x) : putL r p (rows.drop j) = if decide (0 < cmpRows x r) && !(p || decide (cmpRows x r = 0)) then r :: x :: putL r true (rows.drop (j + 1)) else x :: putL r (p || decide (cmpRows x r = 0)) (rows.drop (j + 1)) := by
  rw [drop_at h]; rfl
theorem putL_end {r : List Int} {rows : List (List Int)} {j : Nat} (p : Bool) (h : rows.length ≤ j) : putL r p (rows.drop j) = if p then [] else [r] := by
  rw [List.drop_eq_nil_of_le h]; rfl

end Go.Proofs.YtpgfkjcekhifiaaDoor

/- Contracts: the reference's draws (3): tables. -/
namespace Go.Proofs.YtpgfkjcekhifiaaDoor
open Go.RowKit
set_option linter.unusedVariables false
set_option linter.unusedSimpArgs false
set_option synthInstance.maxSize 2000
set_option synthInstance.maxHeartbeats 400000

theorem turn_on' {lo hi : Nat} {a b c : World} (h : Turn lo hi a b) (k : Below a.heap.size b c) : Turn lo hi a c :=
  ⟨k.os.trans h.os, k.tape.trans h.tape, k.output.trans h.output, Nat.le_trans h.size k.size, fun i h1 h2 => (k.block i h1).trans (h.block i h1 h2)⟩
theorem Cur.below' {w w' : World} {cb bn bc C : Nat} {ba : Option Addr} (h : Cur w cb ba bn bc) (hb : Below C w w') (hC : cb < C) : Cur w' cb ba bn bc := by
  obtain ⟨⟨i, hh, a1, a2, a3, a4, a5, a6, a7⟩, hby⟩ := h
  refine ⟨⟨i, hh, a1, a2, (hb.cell (p := ⟨cb, 0, none⟩) hC).trans a3, (hb.cell (p := ⟨cb, 1, none⟩) hC).trans a4, (hb.cell (p := ⟨cb, 2, none⟩) hC).trans a5, (hb.frozen (p := ⟨cb, 1, none⟩) hC).trans a6, (hb.frozen (p := ⟨cb, 2, none⟩) hC).trans a7⟩, hby.small, fun j hj => ?_⟩
  obtain ⟨b, off, v, ha, hbc, hc, hv⟩ := hby.cell j hj
  exact ⟨b, off, v, ha, hbc, (hb.cell (p := ⟨b, off + j, none⟩) (by simp only []; omega)).trans hc, hv⟩
theorem Turn.frozen {lo hi : Nat} {w w' : World} (h : Turn lo hi w w') {p : Addr} (h1 : p.block < w.heap.size) (h2 : p.block < lo ∨ hi ≤ p.block) : w'.frozen? p = w.frozen? p := World.frozen?_of_block (h.block _ h1 h2)
/-- The state of l4Tab's loop. -/
def TabSt (w : World) (cb : Nat) (ba : Option Addr) (bn bc : Nat) (name : ByteArray) (A M K : Nat) (wr : World) : Prop :=
  ∃ (b : Option Addr) (n c : Nat) (rows : List (List Int)), rows.length + K ≤ M ∧
    wr.cell? ⟨w.heap.size, 0, none⟩ = some (.string (ByteArray.mk #[])) ∧ wr.cell? ⟨w.heap.size, 1, none⟩ = some (.int .i64 0) ∧ wr.cell? ⟨w.heap.size, 2, none⟩ = some (.slice none 0 0) ∧
    wr.frozen? ⟨w.heap.size, 0, none⟩ = false ∧ wr.frozen? ⟨w.heap.size, 1, none⟩ = false ∧ wr.frozen? ⟨w.heap.size, 2, none⟩ = false ∧
    wr.cell? ⟨w.heap.size + 1, 0, none⟩ = some (.string name) ∧ wr.cell? ⟨w.heap.size + 1, 1, none⟩ = some (.int .i64 (A : Int)) ∧ wr.cell? ⟨w.heap.size + 1, 2, none⟩ = some (.slice b n c) ∧ wr.frozen? ⟨w.heap.size + 1, 2, none⟩ = false ∧
    Own oII (w.heap.size + 1 + 1) wr.heap.size wr [.slice b n c] rows ∧ (∀ r ∈ rows, r.length = A ∧ ∀ v ∈ r, 0 ≤ v ∧ v ≤ 1000000) ∧ Cur wr cb ba bn bc ∧ Turn cb (cb + 1) w wr ∧ w.heap.size + 1 + 1 ≤ wr.heap.size

theorem infoRow3 : (Tryd.prog.info? 34).map (fun i => (i.zero, i.size, i.bytes)) = some (some (.slice none 0 0), 1, 24) := by kernel_rfl

end Go.Proofs.YtpgfkjcekhifiaaDoor

/- Contracts: groups of a table and their counts, by the reference. -/
namespace Go.Proofs.YtpgfkjcekhifiaaDoor
open Go.RowKit
set_option linter.unusedVariables false
set_option linter.unusedSimpArgs false
set_option synthInstance.maxSize 2000
set_option synthInstance.maxHeartbeats 400000

theorem Acc.turn {α : Type} {E : TypeId} {o : OS α} {lo S hi lo' hi' : Nat} {w w' : World} {v : Value} {xs : List α} (h : Acc E o lo S hi w v xs) (ht : Turn lo' hi' w w') (h1 : lo < lo' ∨ hi' ≤ lo) (h2 : hi' ≤ S) (hs : hi ≤ w.heap.size) : Acc E o lo S hi w' v xs := by
  obtain ⟨fp, h3, h4, h5⟩ := h
  exact ⟨fp, (O.slice E o).frame h3 (fun k hk => ht.block k (by have := (h5 k hk).2; omega) (by have := (h5 k hk).1; omega)), h4, h5⟩
theorem Acc.rdII {lo S hi : Nat} {w : World} {v : Value} {xs : List (List Int)} (h : Acc 34 oI lo S hi w v xs) : rII.rep w [v] xs := (h.own (B := 0) (Nat.zero_le _) (Nat.zero_le _) (Nat.le_refl _)).rd reads_II
theorem canon_step {rows : List (List Int)} {cs r : List Int} {j : Nat} (h : rows[j]? = some r) : canon (selRows (rows.take (j + 1)) cs) = putL (sel r cs) false (canon (selRows (rows.take j) cs)) := by
  rw [selRows_step h, canon_snoc]

end Go.Proofs.YtpgfkjcekhifiaaDoor

/- Contracts: the reference's draws (2): sets of columns. -/
namespace Go.Proofs.YtpgfkjcekhifiaaDoor
open Go.RowKit
set_option linter.unusedVariables false
set_option linter.unusedSimpArgs false
set_option synthInstance.maxSize 2000
set_option synthInstance.maxHeartbeats 400000

theorem ints_four (W : World) (x y z v : Int) (hx : I64 x) (hy : I64 y) (hz : I64 z) (hv : I64 v) : Ints (W.alloc (.cells #[.int .i64 x, .int .i64 y, .int .i64 z, .int .i64 v] 3)) (some ⟨W.heap.size, 0, none⟩) 4 [x, y, z, v] :=
  ⟨rfl, by omega, fun i hi => by
    refine ⟨W.heap.size, 0, rfl, ?_⟩
    rw [Nat.zero_add]
    rcases (by omega : i = 0 ∨ i = 1 ∨ i = 2 ∨ i = 3) with rfl | rfl | rfl | rfl <;> exact box_cell (Below.refl _ _) rfl, fun u hu => by
    simp only [List.mem_cons, List.not_mem_nil, or_false] at hu
    rcases hu with rfl | rfl | rfl | rfl <;> assumption⟩
theorem Cur.below {w w' : World} {cb bn bc C : Nat} {ba : Option Addr} (h : Cur w cb ba bn bc) (hb : Below C w w') (hC : cb < C) : Cur w' cb ba bn bc := by
  obtain ⟨⟨i, hh, a1, a2, a3, a4, a5, a6, a7⟩, hby⟩ := h
  refine ⟨⟨i, hh, a1, a2, (hb.cell (p := ⟨cb, 0, none⟩) hC).trans a3, (hb.cell (p := ⟨cb, 1, none⟩) hC).trans a4, (hb.cell (p := ⟨cb, 2, none⟩) hC).trans a5, (hb.frozen (p := ⟨cb, 1, none⟩) hC).trans a6, (hb.frozen (p := ⟨cb, 2, none⟩) hC).trans a7⟩, hby.small, fun j hj => ?_⟩
  obtain ⟨b, off, v, ha, hbc, hc, hv⟩ := hby.cell j hj
  exact ⟨b, off, v, ha, hbc, (hb.cell (p := ⟨b, off + j, none⟩) (by simp only []; omega)).trans hc, hv⟩

end Go.Proofs.YtpgfkjcekhifiaaDoor

/- Contracts: the reference's draws (4): any table. -/
namespace Go.Proofs.YtpgfkjcekhifiaaDoor
open Go.RowKit
set_option linter.unusedVariables false
set_option linter.unusedSimpArgs false
set_option synthInstance.maxSize 2000
set_option synthInstance.maxHeartbeats 400000

theorem own_off {α : Type} {o : OS α} {lo hi : Nat} {w w' : World} {cs : List Value} {x : α} (h : Own o lo hi w cs x) {p : Addr} {u : Value} (hw : w' = w.setCell p u) (hp : p.block < lo ∨ hi ≤ p.block) : Own o lo hi w' cs x := by
  subst hw
  obtain ⟨fp, h1, h2, h3⟩ := h
  exact ⟨fp, o.frame h1 (fun k hk => Below.heap_setCell _ _ _ _ (by have := h3 k hk; omega)), h2, h3⟩

theorem ints_three (W : World) (x y z : Int) (hx : I64 x) (hy : I64 y) (hz : I64 z) : Ints (W.alloc (.cells #[.int .i64 x, .int .i64 y, .int .i64 z] 3)) (some ⟨W.heap.size, 0, none⟩) 3 [x, y, z] :=
  ⟨rfl, by omega, fun i hi => by
    refine ⟨W.heap.size, 0, rfl, ?_⟩
    rw [Nat.zero_add]
    rcases (by omega : i = 0 ∨ i = 1 ∨ i = 2) with rfl | rfl | rfl <;> exact box_cell (Below.refl _ _) rfl, fun u hu => by
    simp only [List.mem_cons, List.not_mem_nil, or_false] at hu
    rcases hu with rfl | rfl | rfl <;> assumption⟩

/-- One number, three numbers laid in a slice. -/
theorem own_lit1 {W : World} {a : Int} (ha : I64 a) : Own oI W.heap.size (W.heap.size + 1) (W.alloc (.cells #[.int .i64 a] 3)) [.slice (some ⟨W.heap.size, 0, none⟩) 1 1] [a] := by
  have h : OwnInts W.heap.size (W.alloc (.cells #[.int .i64 a] 3)) (.slice (some ⟨W.heap.size, 0, none⟩) 1 1) 1 [a] :=
    ⟨rfl, ⟨rfl, .inr ⟨W.heap.size, 1, #[.int .i64 a], rfl, Nat.le_refl _, heap_alloc_new W _, Nat.le_refl _, by unfold maxLen; omega, rfl, rfl⟩⟩, by intro x hx; simp at hx; rcases hx with rfl; assumption⟩
  have h9 := h.own
  simpa using h9

theorem own_lit3 {W : World} {a b c : Int} (ha : I64 a) (hb : I64 b) (hc : I64 c) : Own oI W.heap.size (W.heap.size + 1) (W.alloc (.cells #[.int .i64 a, .int .i64 b, .int .i64 c] 3)) [.slice (some ⟨W.heap.size, 0, none⟩) 3 3] [a, b, c] := by
  have h : OwnInts W.heap.size (W.alloc (.cells #[.int .i64 a, .int .i64 b, .int .i64 c] 3)) (.slice (some ⟨W.heap.size, 0, none⟩) 3 3) 3 [a, b, c] :=
    ⟨rfl, ⟨rfl, .inr ⟨W.heap.size, 3, #[.int .i64 a, .int .i64 b, .int .i64 c], rfl, Nat.le_refl _, heap_alloc_new W _, Nat.le_refl _, by unfold maxLen; omega, rfl, rfl⟩⟩, by intro x hx; simp at hx; rcases hx with rfl | rfl | rfl <;> assumption⟩
  have h9 := h.own
  simpa using h9

/-- What l4Any gives. -/
def AnyT (w w' : World) (cb : Nat) (ba : Option Addr) (bn bc : Nat) (e : Ending) : Prop :=
  ∃ (nm : ByteArray) (a : Int) (b : Option Addr) (n c : Nat) (rows : List (List Int)), e = .returned (.agg #[.string nm, .int .i64 a, .slice b n c]) ∧ nm.size ≤ 5 ∧ -1 ≤ a ∧ a ≤ 4 ∧ Own oII w.heap.size w'.heap.size w' [.slice b n c] rows ∧ rows.length ≤ 10 ∧ (∀ r ∈ rows, r.length ≤ 3 ∧ ∀ v ∈ r, 0 ≤ v ∧ v ≤ 1000000) ∧ Cur w' cb ba bn bc ∧ Turn cb (cb + 1) w w'

end Go.Proofs.YtpgfkjcekhifiaaDoor

/- One element of an owned slice replaced; tables appended to tables of one's own. -/
namespace Go.Proofs.YtpgfkjcekhifiaaDoor
open Go.RowKit
set_option linter.unusedVariables false
set_option linter.unusedSimpArgs false
set_option synthInstance.maxSize 2000
set_option synthInstance.maxHeartbeats 400000

theorem OS.rows_take {α : Type} (o : OS α) {w : World} : ∀ {css : List (List Value)} {xs : List α} {fps : List (List Nat)} (h : o.rows w css xs fps) (i : Nat), o.rows w (css.take i) (xs.take i) (fps.take i)
  | [], [], [], _, _ => by simp [OS.rows]
  | _ :: _, _ :: _, _ :: _, h, 0 => by simp [OS.rows]
  | _ :: _, _ :: _, _ :: _, h, i + 1 => by simp only [List.take_succ_cons]; exact ⟨h.1, o.rows_take h.2 i⟩
theorem OS.rows_put {α : Type} (o : OS α) {w w' : World} {c' : List Value} {x' : α} {f' : List Nat} (hr : o.rep w' c' x' f') : ∀ {css : List (List Value)} {xs : List α} {fps : List (List Nat)} (h : o.rows w css xs fps) (i : Nat), (∀ k ∈ fps.flatten, w'.heap[k]? = w.heap[k]?) → o.rows w' (css.set i c') (xs.set i x') (fps.set i f')
  | [], [], [], _, _, _ => by simp [OS.rows]
  | _ :: _, _ :: _, _ :: _, h, 0, hk => ⟨hr, o.rows_frame h.2 fun k hm => hk k (by simp only [List.flatten_cons]; exact List.mem_append_right _ hm)⟩
  | _ :: _, _ :: _, _ :: _, h, i + 1, hk => ⟨o.frame h.1 fun k hm => hk k (by simp only [List.flatten_cons]; exact List.mem_append_left _ hm), o.rows_put hr h.2 i fun k hm => hk k (by simp only [List.flatten_cons]; exact List.mem_append_right _ hm)⟩
theorem set_flatten {f' : List Nat} : ∀ {fps : List (List Nat)} (i : Nat), fps.flatten.Nodup → f'.Nodup → (∀ k ∈ f', k ∉ fps.flatten) → (fps.set i f').flatten.Nodup ∧ ∀ k ∈ (fps.set i f').flatten, k ∈ fps.flatten ∨ k ∈ f'
  | [], _, _, _, _ => by simp
  | f :: fs, 0, hn, hn', hd => by
    simp only [List.flatten_cons] at hn hd
    have h9 := List.nodup_append.1 hn
    refine ⟨?_, fun k hk => ?_⟩
    · simp only [List.set_cons_zero, List.flatten_cons]
      exact List.nodup_append.2 ⟨hn', h9.2.1, fun a ha b hb e => hd a ha (List.mem_append_right _ (e ▸ hb))⟩
    · simp only [List.set_cons_zero, List.flatten_cons] at hk ⊢
      rcases List.mem_append.1 hk with hk | hk
      · exact .inr hk
      · exact .inl (List.mem_append_right _ hk)
  | f :: fs, i + 1, hn, hn', hd => by
    simp only [List.flatten_cons] at hn hd
    have h9 := List.nodup_append.1 hn
    obtain ⟨i1, i2⟩ := set_flatten (fps := fs) i h9.2.1 hn' (fun k hk hm => hd k hk (List.mem_append_right _ hm))
    refine ⟨?_, fun k hk => ?_⟩
    · simp only [List.set_cons_succ, List.flatten_cons]
      refine List.nodup_append.2 ⟨h9.1, i1, fun a ha b hb e => ?_⟩
      subst e
      rcases i2 a hb with h8 | h8
      · exact h9.2.2 a ha a h8 rfl
      · exact hd a h8 (List.mem_append_left _ ha)
    · simp only [List.set_cons_succ, List.flatten_cons] at hk ⊢
      rcases List.mem_append.1 hk with hk | hk
      · exact .inl (List.mem_append_left _ hk)
      · rcases i2 k hk with h8 | h8
        · exact .inl (List.mem_append_right _ h8)
        · exact .inr h8

/-- One element of a slice of one's own: its cells in the slice's block, and the whole if it is replaced. -/
theorem own_put {α : Type} {t : TypeId} {o : OS α} {lo hi : Nat} {w : World} {a : Option Addr} {n cap : Nat} {xs : List α} (h : Own (O.slice t o) lo hi w [.slice a n cap] xs) {i : Nat} {x : α} (hx : xs[i]? = some x) :
    ∃ g c f pre post E, a = some ⟨g, 0, none⟩ ∧ lo ≤ g ∧ g < hi ∧ g < w.heap.size ∧ o.rep w c x f ∧ pre.length = i * o.size ∧ w.heap[g]? = some (.cells (pre ++ (c ++ post)).toArray E) ∧ (f.Nodup ∧ ∀ k ∈ f, lo ≤ k ∧ k < hi ∧ k ≠ g) ∧
      ∀ w' x' c' h1 h2, Own o h1 h2 w' c' x' → hi ≤ h1 → h1 ≤ h2 → w'.heap[g]? = some (.cells (pre ++ (c' ++ post)).toArray E) → (∀ k, lo ≤ k → k < hi → k ≠ g → w'.heap[k]? = w.heap[k]?) → Own (O.slice t o) lo h2 w' [.slice a n cap] (xs.set i x') := by
  obtain ⟨fp, h, hn, hrng⟩ := h
  have hlt := (O.slice t o).lt h
  obtain ⟨v, css, fps, hv, rfl, h1, h2⟩ := h
  simp at hv
  subst hv
  obtain ⟨c, f, hc, hf, hr⟩ := o.rows_get h2 i x hx
  have hnl := List.nodup_append.1 hn
  have hmem : ∀ k ∈ f, k ∈ fps.flatten := fun k hk => List.mem_flatten.2 ⟨f, List.mem_of_getElem? hf, hk⟩
  have hsub : f.Sublist fps.flatten := List.sublist_flatten_of_mem (List.mem_of_getElem? hf)
  have hix := (List.getElem?_eq_some_iff.1 hx).1
  have hic := (List.getElem?_eq_some_iff.1 hc).1
  rcases h1.2 with ⟨hv, h0⟩ | ⟨g, cap', cur, hv, hB, hg, hnc, hcm, hcs, htake⟩
  · omega
  simp at hv
  obtain ⟨rfl, rfl, rfl⟩ := hv
  have hcl := o.len hr
  have hgfp : g ∉ fps.flatten := fun hm => hnl.2.2 g (by simp [bl, Value.ownBlock]) g hm rfl
  have hsplit : css = css.take i ++ c :: css.drop (i + 1) := by
    conv => lhs; rw [← List.take_append_drop i css]
    rw [List.drop_eq_getElem_cons hic]
    congr 2
    exact (List.getElem?_eq_some_iff.1 hc).2
  have hpre : ((css.take i).flatten).length = i * o.size := by
    rw [(o.rows_len (o.rows_take h2 i)).2.2, List.length_take, Nat.min_eq_left (by omega)]
  have hgr := hrng g (by simp [bl, Value.ownBlock])
  refine ⟨g, c, f, (css.take i).flatten, (css.drop (i + 1)).flatten ++ cur.toList.drop (xs.length * o.size), t, rfl, hgr.1, hgr.2, hlt g (by simp [bl, Value.ownBlock]), hr, hpre, ?_, ⟨hsub.nodup hnl.2.1, fun k hk => ⟨(hrng k (List.mem_append_right _ (hmem k hk))).1, (hrng k (List.mem_append_right _ (hmem k hk))).2, fun e => hgfp (e ▸ hmem k hk)⟩⟩, ?_⟩
  · rw [hg]
    congr 2
    apply Array.ext'
    simp only []
    conv => lhs; rw [← List.take_append_drop (xs.length * o.size) cur.toList, htake, hsplit]
    simp
  · rintro w' x' c' h1' h2' ⟨f', hr', hn', hb'⟩ hh1 hh2 hg' hk
    have hcl' := o.len hr'
    have hsp' : css.set i c' = css.take i ++ c' :: css.drop (i + 1) := by
      rw [List.set_eq_take_append_cons_drop, if_pos hic]
    have hdis : ∀ k ∈ f', k ∉ fps.flatten := fun k hk1 hk2 => by
      have := hb' k hk1
      have := hrng k (List.mem_append_right _ hk2)
      omega
    obtain ⟨hsn, hsm⟩ := set_flatten i hnl.2.1 hn' hdis
    refine ⟨bl (.slice (some ⟨g, 0, none⟩) xs.length cap) ++ (fps.set i f').flatten, ⟨_, css.set i c', fps.set i f', rfl, rfl, ?_, ?_⟩, ?_, ?_⟩
    · refine ⟨?_, .inr ⟨g, cap, _, by rw [List.length_set], hB, hg', by rw [List.length_set]; exact hnc, hcm, ?_, ?_⟩⟩
      · have h9 := h1.1
        rw [hsplit] at h9
        rw [hsp', List.length_set]
        simp only [List.flatten_append, List.flatten_cons, List.length_append] at h9 ⊢
        omega
      · have h9 := h1.1
        rw [hsplit] at h9
        simp only [List.flatten_append, List.flatten_cons, List.length_append] at h9
        have h8 := Nat.mul_le_mul_right o.size hnc
        simp only [List.size_toArray, List.length_append, List.length_drop, Array.length_toList]
        omega
      · have h9 := h1.1
        rw [hsplit] at h9
        simp only [List.flatten_append, List.flatten_cons, List.length_append] at h9
        rw [List.length_set, hsp']
        simp only [List.flatten_append, List.flatten_cons]
        rw [show (css.take i).flatten ++ (c' ++ ((css.drop (i + 1)).flatten ++ cur.toList.drop (xs.length * o.size))) = ((css.take i).flatten ++ (c' ++ (css.drop (i + 1)).flatten)) ++ cur.toList.drop (xs.length * o.size) by simp]
        rw [List.take_append_of_le_length (by simp only [List.length_append]; omega), List.take_of_length_le (by simp only [List.length_append]; omega)]
    · exact o.rows_put hr' h2 i fun k hm => hk k (hrng k (List.mem_append_right _ hm)).1 (hrng k (List.mem_append_right _ hm)).2 (fun e => hgfp (e ▸ hm))
    · refine List.nodup_append.2 ⟨hnl.1, hsn, fun a ha b hb e => ?_⟩
      subst e
      simp [bl, Value.ownBlock] at ha
      subst ha
      rcases hsm a hb with h8 | h8
      · exact hgfp h8
      · have := hb' a h8; omega
    · intro k hk
      rcases List.mem_append.1 hk with hk | hk
      · have := hrng k (List.mem_append_left _ hk); omega
      · rcases hsm k hk with h8 | h8
        · have := hrng k (List.mem_append_right _ h8); omega
        · have := hb' k h8; omega

theorem one_T {W : World} {c : List Value} {y : DT} {f : List Nat} (h : oT.rep W c y f) : ∀ u ∈ c, u.oneCell' = true := by
  obtain ⟨q1, q2, q3, e⟩ := rT_form (reads_T.2 h)
  subst e
  intro z hz
  simp only [List.mem_cons, List.not_mem_nil, or_false] at hz
  rcases hz with rfl | rfl | rfl <;> rfl

end Go.Proofs.YtpgfkjcekhifiaaDoor

/- Contracts: the reference's draws (5): a table and columns of it. -/
namespace Go.Proofs.YtpgfkjcekhifiaaDoor
open Go.RowKit
set_option linter.unusedVariables false
set_option linter.unusedSimpArgs false
set_option synthInstance.maxSize 2000
set_option synthInstance.maxHeartbeats 400000

/-- What a drawn table is, by its cells. -/
def DrawnT (lo hi : Nat) (w : World) (cs : List Value) (t : DT) : Prop := Own oT lo hi w cs t ∧ t.1.size ≤ 5 ∧ (-1 ≤ t.2.1 ∧ t.2.1 ≤ 4) ∧ t.2.2.length ≤ 10 ∧ ∀ r ∈ t.2.2, r.length ≤ 3
theorem DrawnT.mono {lo hi lo' hi' : Nat} {w : World} {cs : List Value} {t : DT} (h : DrawnT lo hi w cs t) (h1 : lo' ≤ lo) (h2 : hi ≤ hi') : DrawnT lo' hi' w cs t := ⟨h.1.mono h1 h2, h.2⟩
theorem DrawnT.turn {lo hi l2 h2 : Nat} {w w' : World} {cs : List Value} {t : DT} (h : DrawnT lo hi w cs t) (k : Turn l2 h2 w w') (hd : hi ≤ l2 ∨ h2 ≤ lo) : DrawnT lo hi w' cs t := ⟨h.1.turn k (by omega), h.2⟩
theorem DrawnT.off {lo hi : Nat} {w w' : World} {cs : List Value} {t : DT} (h : DrawnT lo hi w cs t) {p : Addr} {u : Value} (hw : w' = w.setCell p u) (hp : p.block < lo ∨ hi ≤ p.block) : DrawnT lo hi w' cs t := ⟨own_off h.1 hw hp, h.2⟩
theorem DrawnT.below {lo hi C : Nat} {w w' : World} {cs : List Value} {t : DT} (h : DrawnT lo hi w cs t) (hb : Below C w w') (hC : hi ≤ C) : DrawnT lo hi w' cs t := ⟨h.1.below hb hC, h.2⟩

end Go.Proofs.YtpgfkjcekhifiaaDoor
