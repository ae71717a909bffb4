/- Texts joined for one claim: CopyS, Put, Draw3, Draw4. -/
import Derived.Test.YtpgfkjcekhifiaaDoorQf1c6053917
import Derived.Test.YtpgfkjcekhifiaaDoorQ2d8c422574
import Derived.Test.YtpgfkjcekhifiaaDoorQ2b1d883a79
import Derived.Test.YtpgfkjcekhifiaaDoorQaf28bb062f
import Derived.Test.YtpgfkjcekhifiaaDoorQ856294bef7

/- Contracts: the copy of a table, of the reference. -/
namespace Go.Proofs.YtpgfkjcekhifiaaDoor
open Go.RowKit Go.Sort
set_option linter.unusedVariables false
set_option linter.unusedSimpArgs false
set_option synthInstance.maxSize 2000
set_option synthInstance.maxHeartbeats 400000

/-- A builtin append at a step of a region that draws, by its run. -/
theorem step_app {ops : Array Oper} {o : Oper} {a : Act} {K : Act → World → Prop} {Q : Exit → Act → World → Prop} {E : Prop} {w w' : World} {s x : Operand} {t t' : TypeId} {vs vx v' : Value}
    {ty : TypeId} (hrun : (Builtin.append_ #[t, t'] ty #[vs, vx]).run Tryd.prog w = .ok v' w') (hty : o.type = ty) (hgd : o.guard = none)
    (ho : o.op = .call { callee := .builtin .append, args := #[s, x], argTypes := #[t, t'] }) (hs : a.eval s = vs) (hx : a.eval x = vx)
    (h : K (a.put o.dst v') w') :
    if Region.wanted o (yielded ops a.tmps) = true then Oper.wp Tryd.prog o a w K Q else E := by
  have hw : Region.wanted o (yielded ops a.tmps) = true := by simp [Region.wanted, hgd]
  rw [if_pos hw]
  unfold Oper.wp execOp
  simp only [ho, resolve, invoke, builtin, Sem.run_bind, Sem.run_pure, Result.andThen_ok, List.map_toArray, List.map_cons, List.map_nil, hs, hx, hty, hrun]
  exact h

theorem cell_ad {w : World} {o : Obj} {p : Addr} {v : Value} (h : w.cell? p = some v) : (w.alloc o).cell? p = some v :=
  (((Below.refl _ _).alloc (Nat.le_refl _) o).cell (p := p) (World.block_lt_of_cell? w p h)).trans h
theorem cell_add {w : World} {o : Obj} {p : Addr} {v : Value} (h : w.cell? p = some v) : (w.alloc o).drew.cell? p = some v :=
  (((Below.refl _ _).alloc (Nat.le_refl _) o).drew.cell (p := p) (World.block_lt_of_cell? w p h)).trans h
/-- What a cell holds. -/
def valAt (W : World) (p : Addr) : Value := (W.cell? p).getD undef
theorem valAt_eq {W : World} {p : Addr} {v : Value} (h : W.cell? p = some v) : valAt W p = v := by unfold valAt; rw [h]; rfl
theorem valAt_of {W : World} {p : Addr} {v : Value} (h : W.cell? p = some v) : W.cell? p = some (valAt W p) := by rw [valAt_eq h, h]
theorem valAt_set {W : World} {p q : Addr} {u v : Value} (h : W.cell? q = some v) : (W.setCell p u).cell? q = some (valAt (W.setCell p u) q) := by
  obtain ⟨v', h'⟩ := cell?_setCell_some (p := p) (x := u) h
  exact valAt_of h'
theorem cell_set {W : World} {p q : Addr} {u v : Value} (h : W.cell? q = some v) (hne : q.block ≠ p.block) : (W.setCell p u).cell? q = some v :=
  (World.cell?_of_block (a := q) (Below.heap_setCell _ _ _ _ hne)).trans h
/-- 'append([]int{}, xs...)', run. -/
theorem run_copyI (W W1 : World) (ty : TypeId) (n c : Nat) (ad : Option Addr) (xs : List Int) (hi : Ints W ad n xs) (hn : n ≤ 1000000000000) (hW1 : W1 = W.alloc (.cells #[] 3)) :
    ∃ v' w', (Builtin.append_ #[34, 34] ty #[.slice (some ⟨W.heap.size, 0, none⟩) 0 0, .slice ad n c]).run Tryd.prog W1 = .ok v' w' ∧ Own oI W.heap.size w'.heap.size w' [v'] xs ∧ Below W.heap.size W w' ∧ W.heap.size < w'.heap.size := by
  subst hW1
  obtain ⟨i, hi0, hz0, hz1, hz2⟩ := info_parts infoInt
  have hown := own_empty (Nat.le_refl W.heap.size)
  have hbl : Below W.heap.size W (W.alloc (.cells #[] 3)) := (Below.refl _ _).alloc (Nat.le_refl _) _
  replace hi := hi.below hbl
  cases ad with
  | none =>
    have hn0 : n = 0 := by
      rcases Nat.eq_zero_or_pos n with h0 | h0
      · exact h0
      · obtain ⟨b, off, hb, _⟩ := hi.cell 0 h0; simp at hb
    subst hn0
    have hx0 : xs = [] := List.eq_nil_of_length_eq_zero hi.len
    subst hx0
    have hr : (Builtin.append_ #[34, 34] ty #[.slice (some ⟨W.heap.size, 0, none⟩) 0 0, .slice none 0 c]).run Tryd.prog (W.alloc (.cells #[] 3)) = .ok (.slice (some ⟨W.heap.size, 0, none⟩) 0 0) (W.alloc (.cells #[] 3)) := run_append_room_src (P := Tryd.prog) (W.alloc (.cells #[] 3)) 34 34 ty 3 i Tryd.underlying34 hi0 W.heap.size 0 0 0 (.slice none 0 c) 0 [] (Src.ofNil _ Tryd.underlying34 c) (by omega) (by simp) (by simp)
    exact ⟨_, _, hr, hown.own, hbl, by simp⟩
  | some ad =>
    have hnews : ∀ j u, (xs.map (Value.int .i64))[j]? = some u → (W.alloc (.cells #[] 3)).cell? (ad.add j) = some u := by
      intro j u hu
      rw [List.getElem?_map] at hu
      have hj : j < n := by
        rw [← hi.len]
        rcases Nat.lt_or_ge j xs.length with h1 | h1
        · exact h1
        · rw [List.getElem?_eq_none h1] at hu; simp at hu
      obtain ⟨b, off, hb, hc⟩ := hi.cell j hj
      simp at hb
      subst hb
      rw [List.getD_eq_getElem?_getD] at hc
      rw [List.getElem?_eq_getElem (by rw [hi.len]; exact hj)] at hu hc
      simp at hu
      subst hu
      rw [Addr.add_lit]
      simpa using hc
    obtain ⟨v', w', hrun, h1, h2, _⟩ := run_append_own_at (P := Tryd.prog) (W.alloc (.cells #[] 3)) W.heap.size 34 ty 3 i (.int .i64 0) 1 8 Tryd.underlying34 hi0 hz0 hz1 hz2 rfl (by decide) _ 0 [] (by simpa using hown.row) ad n c (xs.map (Value.int .i64)) (by simp [hi.len]) hnews (by intro z hz; simp at hz; obtain ⟨y, _, rfl⟩ := hz; rfl) (by unfold maxLen; omega) (by omega) (by simp)
    refine ⟨v', w', hrun, (OwnInts.own ⟨hi.len, by simpa using h1, hi.rng⟩), hbl.grown h2 (by simp) (fun k hk => by simp [Value.ownBlock] at hk; omega), ?_⟩
    have := h2.size; simp at this; omega

end Go.Proofs.YtpgfkjcekhifiaaDoor

/- Contracts: a row put among rows, by the reference (l4Put). -/
namespace Go.Proofs.YtpgfkjcekhifiaaDoor
open Go.RowKit
set_option linter.unusedVariables false
set_option linter.unusedSimpArgs false
set_option synthInstance.maxSize 2000
set_option synthInstance.maxHeartbeats 400000

theorem putL_at {r x : List Int} {rows : List (List Int)} {j : Nat} (p : Bool) (h : rows[j]? = some x) : putL r p (rows.drop j) = if decide (0 < cmpRows x r) && !(p || decide (cmpRows x r = 0)) then r :: x :: putL r true (rows.drop (j + 1)) else x :: putL r (p || decide (cmpRows x r = 0)) (rows.drop (j + 1)) := by
  rw [drop_at h]; rfl
theorem putL_end {r : List Int} {rows : List (List Int)} {j : Nat} (p : Bool) (h : rows.length ≤ j) : putL r p (rows.drop j) = if p then [] else [r] := by
  rw [List.drop_eq_nil_of_le h]; rfl

end Go.Proofs.YtpgfkjcekhifiaaDoor

/- Contracts: the reference's draws (3): tables. -/
namespace Go.Proofs.YtpgfkjcekhifiaaDoor
open Go.RowKit
set_option linter.unusedVariables false
set_option linter.unusedSimpArgs false
set_option synthInstance.maxSize 2000
set_option synthInstance.maxHeartbeats 400000

theorem turn_on' {lo hi : Nat} {a b c : World} (h : Turn lo hi a b) (k : Below a.heap.size b c) : Turn lo hi a c :=
  ⟨k.os.trans h.os, k.tape.trans h.tape, k.output.trans h.output, Nat.le_trans h.size k.size, fun i h1 h2 => (k.block i h1).trans (h.block i h1 h2)⟩
theorem Cur.below' {w w' : World} {cb bn bc C : Nat} {ba : Option Addr} (h : Cur w cb ba bn bc) (hb : Below C w w') (hC : cb < C) : Cur w' cb ba bn bc := by
  obtain ⟨⟨i, hh, a1, a2, a3, a4, a5, a6, a7⟩, hby⟩ := h
  refine ⟨⟨i, hh, a1, a2, (hb.cell (p := ⟨cb, 0, none⟩) hC).trans a3, (hb.cell (p := ⟨cb, 1, none⟩) hC).trans a4, (hb.cell (p := ⟨cb, 2, none⟩) hC).trans a5, (hb.frozen (p := ⟨cb, 1, none⟩) hC).trans a6, (hb.frozen (p := ⟨cb, 2, none⟩) hC).trans a7⟩, hby.small, fun j hj => ?_⟩
  obtain ⟨b, off, v, ha, hbc, hc, hv⟩ := hby.cell j hj
  exact ⟨b, off, v, ha, hbc, (hb.cell (p := ⟨b, off + j, none⟩) (by simp only []; omega)).trans hc, hv⟩
theorem Turn.frozen {lo hi : Nat} {w w' : World} (h : Turn lo hi w w') {p : Addr} (h1 : p.block < w.heap.size) (h2 : p.block < lo ∨ hi ≤ p.block) : w'.frozen? p = w.frozen? p := World.frozen?_of_block (h.block _ h1 h2)
/-- The state of l4Tab's loop. -/
def TabSt (w : World) (cb : Nat) (ba : Option Addr) (bn bc : Nat) (name : ByteArray) (A M K : Nat) (wr : World) : Prop :=
  ∃ (b : Option Addr) (n c : Nat) (rows : List (List Int)), rows.length + K ≤ M ∧
    wr.cell? ⟨w.heap.size, 0, none⟩ = some (.string (ByteArray.mk #[])) ∧ wr.cell? ⟨w.heap.size, 1, none⟩ = some (.int .i64 0) ∧ wr.cell? ⟨w.heap.size, 2, none⟩ = some (.slice none 0 0) ∧
    wr.frozen? ⟨w.heap.size, 0, none⟩ = false ∧ wr.frozen? ⟨w.heap.size, 1, none⟩ = false ∧ wr.frozen? ⟨w.heap.size, 2, none⟩ = false ∧
    wr.cell? ⟨w.heap.size + 1, 0, none⟩ = some (.string name) ∧ wr.cell? ⟨w.heap.size + 1, 1, none⟩ = some (.int .i64 (A : Int)) ∧ wr.cell? ⟨w.heap.size + 1, 2, none⟩ = some (.slice b n c) ∧ wr.frozen? ⟨w.heap.size + 1, 2, none⟩ = false ∧
    Own oII (w.heap.size + 1 + 1) wr.heap.size wr [.slice b n c] rows ∧ (∀ r ∈ rows, r.length = A ∧ ∀ v ∈ r, 0 ≤ v ∧ v ≤ 1000000) ∧ Cur wr cb ba bn bc ∧ Turn cb (cb + 1) w wr ∧ w.heap.size + 1 + 1 ≤ wr.heap.size

theorem infoRow3 : (Tryd.prog.info? 34).map (fun i => (i.zero, i.size, i.bytes)) = some (some (.slice none 0 0), 1, 24) := by kernel_rfl

end Go.Proofs.YtpgfkjcekhifiaaDoor

/- Contracts: the reference's draws (4): any table. -/
namespace Go.Proofs.YtpgfkjcekhifiaaDoor
open Go.RowKit
set_option linter.unusedVariables false
set_option linter.unusedSimpArgs false
set_option synthInstance.maxSize 2000
set_option synthInstance.maxHeartbeats 400000

theorem own_off {α : Type} {o : OS α} {lo hi : Nat} {w w' : World} {cs : List Value} {x : α} (h : Own o lo hi w cs x) {p : Addr} {u : Value} (hw : w' = w.setCell p u) (hp : p.block < lo ∨ hi ≤ p.block) : Own o lo hi w' cs x := by
  subst hw
  obtain ⟨fp, h1, h2, h3⟩ := h
  exact ⟨fp, o.frame h1 (fun k hk => Below.heap_setCell _ _ _ _ (by have := h3 k hk; omega)), h2, h3⟩

theorem ints_three (W : World) (x y z : Int) (hx : I64 x) (hy : I64 y) (hz : I64 z) : Ints (W.alloc (.cells #[.int .i64 x, .int .i64 y, .int .i64 z] 3)) (some ⟨W.heap.size, 0, none⟩) 3 [x, y, z] :=
  ⟨rfl, by omega, fun i hi => by
    refine ⟨W.heap.size, 0, rfl, ?_⟩
    rw [Nat.zero_add]
    rcases (by omega : i = 0 ∨ i = 1 ∨ i = 2) with rfl | rfl | rfl <;> exact box_cell (Below.refl _ _) rfl, fun u hu => by
    simp only [List.mem_cons, List.not_mem_nil, or_false] at hu
    rcases hu with rfl | rfl | rfl <;> assumption⟩

/-- One number, three numbers laid in a slice. -/
theorem own_lit1 {W : World} {a : Int} (ha : I64 a) : Own oI W.heap.size (W.heap.size + 1) (W.alloc (.cells #[.int .i64 a] 3)) [.slice (some ⟨W.heap.size, 0, none⟩) 1 1] [a] := by
  have h : OwnInts W.heap.size (W.alloc (.cells #[.int .i64 a] 3)) (.slice (some ⟨W.heap.size, 0, none⟩) 1 1) 1 [a] :=
    ⟨rfl, ⟨rfl, .inr ⟨W.heap.size, 1, #[.int .i64 a], rfl, Nat.le_refl _, heap_alloc_new W _, Nat.le_refl _, by unfold maxLen; omega, rfl, rfl⟩⟩, by intro x hx; simp at hx; rcases hx with rfl; assumption⟩
  have h9 := h.own
  simpa using h9

theorem own_lit3 {W : World} {a b c : Int} (ha : I64 a) (hb : I64 b) (hc : I64 c) : Own oI W.heap.size (W.heap.size + 1) (W.alloc (.cells #[.int .i64 a, .int .i64 b, .int .i64 c] 3)) [.slice (some ⟨W.heap.size, 0, none⟩) 3 3] [a, b, c] := by
  have h : OwnInts W.heap.size (W.alloc (.cells #[.int .i64 a, .int .i64 b, .int .i64 c] 3)) (.slice (some ⟨W.heap.size, 0, none⟩) 3 3) 3 [a, b, c] :=
    ⟨rfl, ⟨rfl, .inr ⟨W.heap.size, 3, #[.int .i64 a, .int .i64 b, .int .i64 c], rfl, Nat.le_refl _, heap_alloc_new W _, Nat.le_refl _, by unfold maxLen; omega, rfl, rfl⟩⟩, by intro x hx; simp at hx; rcases hx with rfl | rfl | rfl <;> assumption⟩
  have h9 := h.own
  simpa using h9

/-- What l4Any gives. -/
def AnyT (w w' : World) (cb : Nat) (ba : Option Addr) (bn bc : Nat) (e : Ending) : Prop :=
  ∃ (nm : ByteArray) (a : Int) (b : Option Addr) (n c : Nat) (rows : List (List Int)), e = .returned (.agg #[.string nm, .int .i64 a, .slice b n c]) ∧ nm.size ≤ 5 ∧ -1 ≤ a ∧ a ≤ 4 ∧ Own oII w.heap.size w'.heap.size w' [.slice b n c] rows ∧ rows.length ≤ 10 ∧ (∀ r ∈ rows, r.length ≤ 3 ∧ ∀ v ∈ r, 0 ≤ v ∧ v ≤ 1000000) ∧ Cur w' cb ba bn bc ∧ Turn cb (cb + 1) w w'

end Go.Proofs.YtpgfkjcekhifiaaDoor
