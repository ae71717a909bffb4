/- Texts joined for one claim: Base, Bits. -/
import Derived.Test.YtigcagplbihenaaDoorProg
import Derived.WalkKit
import Derived.WalkSpells
import Derived.WalkLawsBesides
import Derived.Lib.Hide
import Derived.Deep.QuietTactic
import Derived.BigQuiet
import Derived.IntWalk

/- Plain words that the contracts share: how slices of ints read in a world, and how a slice of the call's own grows. -/
namespace Go.Proofs.YtigcagplbihenaaDoor
open Go.RowKit
set_option linter.unusedVariables false
set_option linter.unusedSimpArgs false

theorem ret_bool {a b : Bool} (h : a = b) : Ending.returned (.bool a) = .returned (.bool b) := by rw [h]
theorem ret_int {k : IntKind} {a b : Int} (h : a = b) : Ending.returned (.int k a) = .returned (.int k b) := by rw [h]
theorem drop_cons (xs : List Int) (k : Nat) (h : k < xs.length) : xs.drop k = xs.getD k 0 :: xs.drop (k + 1) := by
  rw [List.drop_eq_getElem_cons h, List.getD_eq_getElem?_getD, List.getElem?_eq_getElem h]; rfl
theorem take_snoc (xs : List Int) (k : Nat) (h : k < xs.length) : xs.take (k + 1) = xs.take k ++ [xs.getD k 0] := by
  rw [List.take_succ_eq_append_getElem h, List.getD_eq_getElem?_getD, List.getElem?_eq_getElem h]; rfl

/-- int's range. -/
def I64 (x : Int) : Prop := -9223372036854775808 ≤ x ∧ x ≤ 9223372036854775807
def AllI64 (xs : List Int) : Prop := ∀ x ∈ xs, I64 x

/-- w' is w after some draws: nothing else has turned. -/
def Drew (w w' : World) : Prop := ∃ m, w' = w.drewN m
theorem Drew.refl (w : World) : Drew w w := ⟨0, rfl⟩
theorem Drew.step {w w' : World} (h : Drew w w') (n : Nat) : Drew w (w'.drewN n) := by
  obtain ⟨m, rfl⟩ := h
  exact ⟨m + n, World.drewN_drewN _ _ _⟩
theorem Drew.trans {a b c : World} (h : Drew a b) (k : Drew b c) : Drew a c := by
  obtain ⟨n, rfl⟩ := k
  exact h.step n
theorem Drew.cell {w w' : World} (h : Drew w w') (p : Addr) : w'.cell? p = w.cell? p := by obtain ⟨m, rfl⟩ := h; rfl
theorem Drew.below {w w' : World} (h : Drew w w') (B : Nat) : Below B w w' := by obtain ⟨m, rfl⟩ := h; exact ⟨rfl, rfl, rfl, Nat.le_refl _, fun _ _ => rfl⟩
theorem Drew.size {w w' : World} (h : Drew w w') : w'.heap.size = w.heap.size := by obtain ⟨m, rfl⟩ := h; rfl
/-- A contract that leaves the world alone, met inside a region that only reads. -/
theorem quiet_same {P : Program} {f : FuncId} {args : Array Value} {w : World} {n : Nat} {v : Value} (h : Calls P f args (w.drewN n) fun e w' => e = .returned v ∧ w.drewN n = w') :
    Calls P f args (w.drewN n) fun e w'' => e = .returned v ∧ ∃ m, w'' = w.drewN m :=
  h.mono fun _ _ ⟨he, hm⟩ => ⟨he, n, hm.symm⟩
/-- A contract that only draws, met inside a region that only reads. -/
theorem quiet_drew {P : Program} {f : FuncId} {args : Array Value} {w : World} {n : Nat} {v : Value} (h : Calls P f args (w.drewN n) fun e w' => e = .returned v ∧ Drew (w.drewN n) w') :
    Calls P f args (w.drewN n) fun e w'' => e = .returned v ∧ ∃ m, w'' = w.drewN m :=
  h.mono fun _ _ ⟨he, hm⟩ => ⟨he, (Drew.step (Drew.refl w) n).trans hm⟩

/-- One call more: what was there when the first began is still there. -/
theorem on {w w1 w2 : World} (h : Below w.heap.size w w1) (k : Below w1.heap.size w1 w2) : Below w.heap.size w w2 :=
  h.trans (k.mono h.size)
theorem onD {B : Nat} {w w1 w2 : World} (h : Below B w w1) (k : Drew w1 w2) : Below B w w2 := h.trans (k.below _)
/-- What was there reads as it did: two rules for the walk. -/
theorem bcell {W w1 : World} (hb : Below W.heap.size W w1) : (∀ b o, b < W.heap.size → w1.cell? ⟨b, o, none⟩ = W.cell? ⟨b, o, none⟩) ∧ (∀ b o, b < W.heap.size → w1.frozen? ⟨b, o, none⟩ = W.frozen? ⟨b, o, none⟩) :=
  ⟨fun b o h => hb.cell (p := ⟨b, o, none⟩) h, fun b o h => hb.frozen (p := ⟨b, o, none⟩) h⟩
/-- A cell of a block that has just been laid, in whatever world behind it. -/
theorem box_cell {w wr : World} {cs : Array Value} {T : TypeId} {i : Nat} {v : Value} (hb : Below (w.heap.size + 1) (w.alloc (.cells cs T)) wr) (hv : cs[i]? = some v) : wr.cell? ⟨w.heap.size, i, none⟩ = some v := by
  rw [hb.cell (p := ⟨w.heap.size, i, none⟩) (Nat.lt_succ_self _)]
  have h : (w.alloc (.cells cs T)).heap[w.heap.size]? = some (.cells cs T) := heap_alloc_new w _
  simp only [World.cell?, h]
  simpa using hv
/-- What lies in memory is below the heap's size. -/
theorem cell_lt {w : World} {p : Addr} {v : Value} (h : w.cell? p = some v) : p.block < w.heap.size := World.block_lt_of_cell? w p h

/-- The slice .slice a n cap reads in w as the list xs of ints. -/
structure Ints (w : World) (a : Option Addr) (n : Nat) (xs : List Int) : Prop where
  len : xs.length = n
  small : n ≤ 9223372036854775807
  cell : ∀ i, i < n → ∃ b off, a = some ⟨b, off, none⟩ ∧ w.cell? ⟨b, off + i, none⟩ = some (.int .i64 (xs.getD i 0))
  rng : AllI64 xs

theorem Ints.drew {w w' : World} {a : Option Addr} {n : Nat} {xs : List Int} (h : Ints w a n xs) (hd : Drew w w') : Ints w' a n xs := by
  obtain ⟨m, rfl⟩ := hd
  exact ⟨h.len, h.small, h.cell, h.rng⟩
theorem Ints.below {w w' : World} {a : Option Addr} {n : Nat} {xs : List Int} (h : Ints w a n xs) (hb : Below w.heap.size w w') : Ints w' a n xs :=
  ⟨h.len, h.small, fun i hi => by
    obtain ⟨b, off, ha, hc⟩ := h.cell i hi
    exact ⟨b, off, ha, by rw [hb.cell (p := ⟨b, off + i, none⟩) (cell_lt hc)]; exact hc⟩, h.rng⟩
theorem Ints.drewN {w : World} {a : Option Addr} {n : Nat} {xs : List Int} (h : Ints w a n xs) (m : Nat) : Ints (w.drewN m) a n xs := h.drew ⟨m, rfl⟩
theorem Ints.get {w : World} {a : Option Addr} {n : Nat} {xs : List Int} (h : Ints w a n xs) {k : Nat} (hk : k < n) :
    ∃ b off x, a = some ⟨b, off, none⟩ ∧ w.cell? ⟨b, off + k, none⟩ = some (.int .i64 x) ∧ Hid (xs.getD k 0 = x) ∧ -9223372036854775808 ≤ x ∧ x ≤ 9223372036854775807 := by
  obtain ⟨b, off, ha, hc⟩ := h.cell k hk
  refine ⟨b, off, _, ha, hc, rfl, ?_⟩
  have hk' : k < xs.length := by have := h.len; omega
  have : xs.getD k 0 ∈ xs := by
    rw [List.getD_eq_getElem?_getD, List.getElem?_eq_getElem hk']; exact List.getElem_mem hk'
  exact h.rng _ this
theorem Ints.drop {w : World} {a : Option Addr} {n : Nat} {xs : List Int} (h : Ints w a n xs) {k : Nat} {x : Int} (hk : k < n) (hx : Hid (xs.getD k 0 = x)) : xs.drop k = x :: xs.drop (k + 1) := by
  rw [drop_cons xs k (by rw [h.len]; exact hk), hx.out]

/-- v is a slice of ints of the call's own (its block from B on), and reads as xs. -/
structure OwnInts (B : Nat) (w : World) (v : Value) (n : Nat) (xs : List Int) : Prop where
  len : xs.length = n
  row : w.ownsRow B 3 1 v n (xs.map (Value.int .i64))
  rng : AllI64 xs

/-- v holds a slice value at the head of a block of its own, or nil. -/
theorem own_form {w : World} {B e size : Nat} {v : Value} {n : Nat} {us : List Value} (h : w.ownsRow B e size v n us) :
    ∃ a cap, v = .slice a n cap ∧ n ≤ 9223372036854775807 ∧ (∀ x, a = some x → B ≤ x.block ∧ x.block < w.heap.size) := by
  rcases h.2 with ⟨rfl, rfl⟩ | ⟨g, cap, cur, rfl, hB, hg, hn, hc, _⟩
  · exact ⟨none, 0, rfl, by omega, by simp⟩
  · refine ⟨_, cap, rfl, by unfold maxLen at hc; omega, ?_⟩
    rintro x hx
    simp at hx
    subst hx
    exact ⟨hB, (Array.getElem?_eq_some_iff.1 hg).1⟩

theorem own_cells {w : World} {B e : Nat} {a : Option Addr} {cap : Nat} {n : Nat} {us : List Value} (h : w.ownsRow B e 1 (.slice a n cap) n us) (i : Nat) (hi : i < n) :
    ∃ g, a = some ⟨g, 0, none⟩ ∧ B ≤ g ∧ w.cell? ⟨g, i, none⟩ = us[i]? ∧ w.frozen? ⟨g, i, none⟩ = false := by
  have h' := h
  rcases h'.2 with ⟨hv, rfl⟩ | ⟨g, c, cur, hv, hB, hg, hn, hc, _⟩
  · omega
  · simp at hv
    obtain ⟨rfl, rfl⟩ := hv
    refine ⟨g, rfl, hB, ?_, h.frozenAt i⟩
    exact h.cellAt i (by omega)

theorem OwnInts.form {B : Nat} {w : World} {v : Value} {n : Nat} {xs : List Int} (h : OwnInts B w v n xs) : ∃ a cap, v = .slice a n cap ∧ Ints w a n xs := by
  obtain ⟨a, cap, rfl, hn, _⟩ := own_form h.row
  refine ⟨a, cap, rfl, h.len, hn, fun i hi => ?_, h.rng⟩
  obtain ⟨g, rfl, _, hc, _⟩ := own_cells h.row i hi
  refine ⟨g, 0, rfl, ?_⟩
  rw [Nat.zero_add, hc, List.getElem?_map, List.getD_eq_getElem?_getD, List.getElem?_eq_getElem (by rw [h.len]; exact hi)]
  rfl
theorem OwnInts.ints {B : Nat} {w : World} {a : Option Addr} {n cap : Nat} {xs : List Int} (h : OwnInts B w (.slice a n cap) n xs) : Ints w a n xs := by
  obtain ⟨a', cap', hv, hi⟩ := h.form
  simp at hv
  obtain ⟨rfl, rfl⟩ := hv
  exact hi
theorem OwnInts.capn {B : Nat} {w : World} {a : Option Addr} {n cap : Nat} {xs : List Int} (h : OwnInts B w (.slice a n cap) n xs) : n ≤ cap ∧ cap ≤ 9223372036854775807 := by
  rcases h.row.2 with ⟨hv, rfl⟩ | ⟨g, c, cur, hv, hB, hg, hn, hc, _⟩
  · simp at hv; omega
  · simp at hv
    obtain ⟨rfl, rfl⟩ := hv
    exact ⟨hn, by unfold maxLen at hc; omega⟩
/-- What the call owns stays when only blocks from some number on have turned, or new ones have come. -/
theorem own_below {w w' : World} {B C e size : Nat} {v : Value} {n : Nat} {us : List Value} (h : w.ownsRow B e size v n us) (hb : Below C w w') (hC : w.heap.size ≤ C) : w'.ownsRow B e size v n us := by
  refine ⟨h.1, ?_⟩
  rcases h.2 with h2 | ⟨g, cap, cur, rfl, hB, hg, r⟩
  · exact .inl h2
  · exact .inr ⟨g, cap, cur, rfl, hB, by rw [hb.block g (by have := (Array.getElem?_eq_some_iff.1 hg).1; omega)]; exact hg, r⟩
theorem OwnInts.below {B : Nat} {w w' : World} {v : Value} {n : Nat} {xs : List Int} (h : OwnInts B w v n xs) (hb : Below w.heap.size w w') : OwnInts B w' v n xs :=
  ⟨h.len, own_below h.row hb (Nat.le_refl _), h.rng⟩
theorem own_base {w : World} {B B' e size : Nat} {v : Value} {n : Nat} {us : List Value} (h : w.ownsRow B e size v n us) (hB : B' ≤ B) : w.ownsRow B' e size v n us := by
  refine ⟨h.1, ?_⟩
  rcases h.2 with h2 | ⟨g, cap, cur, rfl, hg, r⟩
  · exact .inl h2
  · exact .inr ⟨g, cap, cur, rfl, by omega, r⟩
theorem OwnInts.base {B B' : Nat} {w : World} {v : Value} {n : Nat} {xs : List Int} (h : OwnInts B w v n xs) (hB : B' ≤ B) : OwnInts B' w v n xs :=
  ⟨h.len, own_base h.row hB, h.rng⟩
theorem OwnInts.setLow {B : Nat} {w : World} {v : Value} {n : Nat} {xs : List Int} (h : OwnInts B w v n xs) {p : Addr} (hp : p.block < B) (u : Value) : OwnInts B (w.setCell p u) v n xs :=
  ⟨h.len, ownsRow_setCell_below h.row hp u, h.rng⟩
theorem OwnInts.nil (B : Nat) (w : World) : OwnInts B w (.slice none 0 0) 0 [] := ⟨rfl, World.ownsRow_nil _ _ _ _, by intro x hx; cases hx⟩

/-- Between w and w' at most blocks from lo up to hi have turned; none has come. -/
structure Kept (lo hi : Nat) (w w' : World) : Prop where
  os : w'.os = w.os
  tape : w'.tape = w.tape
  output : w'.output = w.output
  size : w'.heap.size = w.heap.size
  block : ∀ k, (k < lo ∨ hi ≤ k) → w'.heap[k]? = w.heap[k]?
theorem Kept.refl (lo hi : Nat) (w : World) : Kept lo hi w w := ⟨rfl, rfl, rfl, rfl, fun _ _ => rfl⟩
theorem Kept.trans {lo hi : Nat} {a b c : World} (h : Kept lo hi a b) (k : Kept lo hi b c) : Kept lo hi a c :=
  ⟨k.os.trans h.os, k.tape.trans h.tape, k.output.trans h.output, k.size.trans h.size, fun i hi => (k.block i hi).trans (h.block i hi)⟩
theorem Kept.mono {lo hi lo' hi' : Nat} {w w' : World} (h : Kept lo hi w w') (h1 : lo' ≤ lo) (h2 : hi ≤ hi') : Kept lo' hi' w w' :=
  ⟨h.os, h.tape, h.output, h.size, fun k hk => h.block k (by omega)⟩
theorem Kept.below {lo hi : Nat} {w w' : World} (h : Kept lo hi w w') : Below lo w w' := ⟨h.os, h.tape, h.output, by rw [h.size]; exact Nat.le_refl _, fun k hk => h.block k (.inl hk)⟩
theorem Kept.setCell {lo hi : Nat} {a w : World} (h : Kept lo hi a w) {p : Addr} (h1 : lo ≤ p.block) (h2 : p.block < hi) (u : Value) : Kept lo hi a (w.setCell p u) :=
  h.trans ⟨rfl, rfl, rfl, by simp [World.setCell], fun k hk => Below.heap_setCell _ _ _ _ (by omega)⟩
theorem Kept.drew {lo hi : Nat} {a w w' : World} (h : Kept lo hi a w) (hd : Drew w w') : Kept lo hi a w' := by
  obtain ⟨m, rfl⟩ := hd
  exact h.trans ⟨rfl, rfl, rfl, rfl, fun _ _ => rfl⟩
/-- The block of a slice value. -/
def blk (v : Value) : Option Nat := v.ownBlock
/-- What is owned outside the blocks that turned stays. -/
theorem own_kept {lo hi : Nat} {w w' : World} {B e size : Nat} {v : Value} {n : Nat} {us : List Value} (h : w.ownsRow B e size v n us) (hk : Kept lo hi w w') (ho : ∀ k, v.ownBlock = some k → k < lo ∨ hi ≤ k) : w'.ownsRow B e size v n us := by
  refine ⟨h.1, ?_⟩
  rcases h.2 with h2 | ⟨g, cap, cur, rfl, hB, hg, r⟩
  · exact .inl h2
  · exact .inr ⟨g, cap, cur, rfl, hB, by rw [hk.block g (ho g rfl)]; exact hg, r⟩
theorem OwnInts.kept {lo hi B : Nat} {w w' : World} {v : Value} {n : Nat} {xs : List Int} (h : OwnInts B w v n xs) (hk : Kept lo hi w w') (ho : ∀ k, v.ownBlock = some k → k < lo ∨ hi ≤ k) : OwnInts B w' v n xs :=
  ⟨h.len, own_kept h.row hk ho, h.rng⟩
theorem Ints.kept {lo hi : Nat} {w w' : World} {a : Option Addr} {n : Nat} {xs : List Int} (h : Ints w a n xs) (hk : Kept lo hi w w') (ho : ∀ x, a = some x → x.block < lo ∨ hi ≤ x.block) : Ints w' a n xs :=
  ⟨h.len, h.small, fun i hi => by
    obtain ⟨b, off, ha, hc⟩ := h.cell i hi
    refine ⟨b, off, ha, ?_⟩
    rw [World.cell?_of_block (w := w) (a := ⟨b, off + i, none⟩) (hk.block b (ho _ ha))]; exact hc, h.rng⟩

theorem infoInt : (Tryd.prog.info? 3).map (fun i => (i.zero, i.size, i.bytes)) = some (some (.int .i64 0), 1, 8) := by kernel_rfl

theorem grown_below {B : Nat} {w0 w w' : World} {row : Option Nat} (h : Below B w0 w) (hB : B ≤ w.heap.size) (hg : w.grownBy w' row) (hr : ∀ k, row = some k → B ≤ k) : Below B w0 w' := h.grown hg hB hr

/-- 'out = append(out, x)' where x has just been laid in a cell of its own: out grows by one element. -/
theorem wpList_app1 {B : Nat} {w0 W : World} {ops : Array Oper} {rest : List Oper} {o : Oper} {a : Act} {Q : Exit → Act → World → Prop}
    (s x : Operand) (v : Value) (n : Nat) (xs : List Int) (u : Int)
    (hown : OwnInts B W v n xs) (hb : Below B w0 W) (hB : B ≤ W.heap.size) (hu : I64 u) (hn : n ≤ 1000000000000)
    (hgd : o.guard = none) (ho : o.op = .call { callee := .builtin .append, args := #[s, x], argTypes := #[33, 33] })
    (hs : a.eval s = v) (hx : a.eval x = .slice (some ⟨W.heap.size, 0, none⟩) 1 1)
    (h : ∀ v' w', OwnInts B w' v' (n + 1) (xs ++ [u]) → Below B w0 w' → B ≤ w'.heap.size → wpList Tryd.prog ops Q rest (a.put o.dst v') w') :
    wpList Tryd.prog ops Q (o :: rest) a (W.alloc (.cells #[.int .i64 u] 3)) := by
  obtain ⟨i, hi, hz0, hz1, hz2⟩ := info_parts infoInt
  refine wpList_append_own _ hgd s x 33 ho B 3 i (.int .i64 0) 1 8 Tryd.underlying33 hi hz0 hz1 hz2 rfl (by decide) v n (xs.map (Value.int .i64)) hs (hown.row.alloc _)
    ⟨W.heap.size, 0, none⟩ 1 1 [.int .i64 u] hx rfl (cell_one_new _ _ _) (by intro z hz; simp at hz; subst hz; rfl) (by unfold maxLen; omega) (by omega) (by simp; omega) ?_
  intro v' w' h1 h2 _
  have hb' : Below B w0 w' := (hb.alloc hB _).grown h2 (by simp; omega) (fun k hk => (hown.row.lt k hk).1)
  refine h v' w' ⟨by simp [hown.len], by simpa using h1, ?_⟩ hb' ?_
  · intro z hz
    rcases List.mem_append.1 hz with hz | hz
    · exact hown.rng z hz
    · simp at hz; subst hz; exact hu
  · have := h2.size; simp at this; omega

/-- 'make([]int, n)'. -/
theorem wpList_mk {W : World} {ops : Array Oper} {rest : List Oper} {o : Oper} {a : Act} {Q : Exit → Act → World → Prop} (l c : Operand) (n : Nat) (hn : n ≤ 1000000000000)
    (hgd : o.guard = none) (ho : o.op = Op.makeSlice 33 l c) (hl : a.eval l = .int .i64 n) (hc : a.eval c = .int .i64 n)
    (h : ∀ w', w'.ownsRow W.heap.size 3 1 (.slice (some ⟨W.heap.size, 0, none⟩) n n) n ((List.replicate n 0).map (Value.int .i64)) → Below W.heap.size W w' → W.heap.size < w'.heap.size →
      wpList Tryd.prog ops Q rest (a.put o.dst (.slice (some ⟨W.heap.size, 0, none⟩) n n)) w') :
    wpList Tryd.prog ops Q (o :: rest) a W := by
  obtain ⟨i, hi, hz0, hz1, hz2⟩ := info_parts infoInt
  refine wpList_make_full W hgd l c 33 ho W.heap.size 3 i (.int .i64 0) 1 Tryd.underlying33 hi hz0 hz1 .i64 .i64 n n n hl hc rfl rfl (by rw [hz2]; omega) (by unfold maxLen; omega) (Nat.le_refl _) ?_
  intro w1 hown hgrow
  have hb1 : Below W.heap.size W w1 := (Below.refl _ _).grown hgrow (Nat.le_refl _) (by intro k hk; cases hk)
  refine h w1 ?_ hb1 ((hown.lt W.heap.size rfl).2)
  have e : (List.replicate n (0 : Int)).map (Value.int .i64) = (madeCells (Value.int .i64 0).cells (n * 1)).toList := by
    rw [show (Value.int .i64 0).cells = #[.int .i64 0] from rfl, toList_madeCells_one]; simp
  rw [e]; exact hown

/-- '[]int{}': an empty slice of the call's own. -/
theorem own_empty {B : Nat} {W : World} (hB : B ≤ W.heap.size) : OwnInts B (W.alloc (.cells #[] 3)) (.slice (some ⟨W.heap.size, 0, none⟩) 0 0) 0 [] :=
  ⟨rfl, World.ownsRow_made W #[] 0 hB (by unfold maxLen; omega) rfl, by intro x hx; cases hx⟩

end Go.Proofs.YtigcagplbihenaaDoor

/- Plain facts on the bits of small numbers. -/
namespace Go.Proofs.YtigcagplbihenaaDoor
open Go.RowKit
set_option linter.unusedVariables false
set_option linter.unusedSimpArgs false

theorem bits_and_nat (a b : Nat) (ha : a < 9223372036854775808) (hb : b < 9223372036854775808) : bits .and .i64 (a : Int) (b : Int) = ((a &&& b : Nat) : Int) := by
  have hx : a &&& b < 2 ^ 63 := Nat.and_lt_two_pow _ (by omega)
  have h1 : (BitVec.ofInt 64 (a : Int)).toNat = a := by
    rw [BitVec.ofInt_natCast, BitVec.toNat_ofNat]; exact Nat.mod_eq_of_lt (by omega)
  have h2 : (BitVec.ofInt 64 (b : Int)).toNat = b := by
    rw [BitVec.ofInt_natCast, BitVec.toNat_ofNat]; exact Nat.mod_eq_of_lt (by omega)
  show IntKind.i64.wrap ((BitVec.ofInt 64 (a : Int) &&& BitVec.ofInt 64 (b : Int)).toNat : Int) = _
  rw [BitVec.toNat_and, h1, h2, IntWalk.i64_in _ (by omega)]
theorem bits_or_nat (a b : Nat) (ha : a < 9223372036854775808) (hb : b < 9223372036854775808) : bits .or .i64 (a : Int) (b : Int) = ((a ||| b : Nat) : Int) := by
  have hx : a ||| b < 2 ^ 63 := Nat.or_lt_two_pow (by omega) (by omega)
  have h1 : (BitVec.ofInt 64 (a : Int)).toNat = a := by
    rw [BitVec.ofInt_natCast, BitVec.toNat_ofNat]; exact Nat.mod_eq_of_lt (by omega)
  have h2 : (BitVec.ofInt 64 (b : Int)).toNat = b := by
    rw [BitVec.ofInt_natCast, BitVec.toNat_ofNat]; exact Nat.mod_eq_of_lt (by omega)
  show IntKind.i64.wrap ((BitVec.ofInt 64 (a : Int) ||| BitVec.ofInt 64 (b : Int)).toNat : Int) = _
  rw [BitVec.toNat_or, h1, h2, IntWalk.i64_in _ (by omega)]

/-- Whether bit j of K is set. -/
def bitAt (K j : Nat) : Bool := K / 2 ^ j % 2 == 1
theorem bitAt_testBit (K j : Nat) : bitAt K j = K.testBit j := by
  unfold bitAt Nat.testBit
  rw [Nat.shiftRight_eq_div_pow, Nat.and_comm, Nat.and_one_is_mod]
  rcases (by omega : K / 2 ^ j % 2 = 0 ∨ K / 2 ^ j % 2 = 1) with h | h <;> simp [h]
/-- Go's 'x >> j & 1 == 1'. -/
theorem bit_test (K j : Nat) (hK : K < 9223372036854775808) : (bits BinOp.and IntKind.i64 ((K : Int) / 2 ^ j) 1 == 1) = bitAt K j := by
  have e : ((K : Int) / 2 ^ j) = ((K / 2 ^ j : Nat) : Int) := by simp
  have hb := bits_and_nat (K / 2 ^ j) 1 (by have := Nat.div_le_self K (2 ^ j); omega) (by omega)
  rw [e]
  have hb' : bits BinOp.and IntKind.i64 ((K / 2 ^ j : Nat) : Int) 1 = ((K / 2 ^ j % 2 : Nat) : Int) := by
    rw [← Nat.and_one_is_mod]; exact hb
  rw [hb']
  unfold bitAt
  rcases (by omega : K / 2 ^ j % 2 = 0 ∨ K / 2 ^ j % 2 = 1) with h | h <;> simp [h]
/-- Go's 'x >> j & 1 == 0'. -/
theorem bit_test0 (K j : Nat) (hK : K < 9223372036854775808) : (bits BinOp.and IntKind.i64 ((K : Int) / 2 ^ j) 1 == 0) = !bitAt K j := by
  have h := bit_test K j hK
  have e : ((K : Int) / 2 ^ j) = ((K / 2 ^ j : Nat) : Int) := by simp
  have hb := bits_and_nat (K / 2 ^ j) 1 (by have := Nat.div_le_self K (2 ^ j); omega) (by omega)
  have hb' : bits BinOp.and IntKind.i64 ((K / 2 ^ j : Nat) : Int) 1 = ((K / 2 ^ j % 2 : Nat) : Int) := by
    rw [← Nat.and_one_is_mod]; exact hb
  rw [e, hb']
  unfold bitAt
  rcases (by omega : K / 2 ^ j % 2 = 0 ∨ K / 2 ^ j % 2 = 1) with h | h <;> simp [h]

/-- The set bits of K below m, ascending. -/
def bitsTo (K : Nat) : Nat → List Int
  | 0 => []
  | m + 1 => bitsTo K m ++ (if bitAt K m then [(m : Int)] else [])
theorem bitsTo_yes {K m : Nat} (h : bitAt K m = true) : bitsTo K (m + 1) = bitsTo K m ++ [(m : Int)] := by simp [bitsTo, h]
theorem bitsTo_no {K m : Nat} (h : bitAt K m = false) : bitsTo K (m + 1) = bitsTo K m := by simp [bitsTo, h]
theorem bitsTo_len (K : Nat) : ∀ m, (bitsTo K m).length ≤ m
  | 0 => by simp [bitsTo]
  | m + 1 => by
    have := bitsTo_len K m
    simp only [bitsTo, List.length_append]
    split <;> simp <;> omega
theorem bitsTo_mem (K : Nat) : ∀ m, ∀ x ∈ bitsTo K m, 0 ≤ x ∧ x < m
  | 0 => by simp [bitsTo]
  | m + 1 => by
    intro x hx
    simp only [bitsTo, List.mem_append] at hx
    rcases hx with hx | hx
    · have := bitsTo_mem K m x hx; omega
    · split at hx
      · simp at hx; omega
      · simp at hx

end Go.Proofs.YtigcagplbihenaaDoor
