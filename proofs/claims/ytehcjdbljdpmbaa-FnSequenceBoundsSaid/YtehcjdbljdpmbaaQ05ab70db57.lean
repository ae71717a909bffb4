/- Texts joined for one claim: Base, Cmp, Deg, Has, Help, Shape, App, Help2, Mask, Name, Seq, Root, Seq2, UniI, Cauchy. -/
import Derived.Test.YtehcjdbljdpmbaaProg
import Derived.Test.YtehcjdbljdpmbaaQ3db769134f
import Derived.WalkKit
import Derived.WalkSpells
import Derived.WalkLawsBesides
import Derived.Lib.Hide
import Derived.Deep.QuietTactic
import Derived.BigQuiet
import Derived.IntWalk

/- Plain words that the contracts share: how slices of ints read in a world, and how a slice of the call's own grows. -/
namespace Go.Proofs.Ytehcjdbljdpmbaa
open Go.RowKit
set_option linter.unusedVariables false
set_option linter.unusedSimpArgs false

theorem ret_bool {a b : Bool} (h : a = b) : Ending.returned (.bool a) = .returned (.bool b) := by rw [h]
theorem ret_int {k : IntKind} {a b : Int} (h : a = b) : Ending.returned (.int k a) = .returned (.int k b) := by rw [h]
theorem drop_cons (xs : List Int) (k : Nat) (h : k < xs.length) : xs.drop k = xs.getD k 0 :: xs.drop (k + 1) := by
  rw [List.drop_eq_getElem_cons h, List.getD_eq_getElem?_getD, List.getElem?_eq_getElem h]; rfl
theorem take_snoc (xs : List Int) (k : Nat) (h : k < xs.length) : xs.take (k + 1) = xs.take k ++ [xs.getD k 0] := by
  rw [List.take_succ_eq_append_getElem h, List.getD_eq_getElem?_getD, List.getElem?_eq_getElem h]; rfl

/-- int's range. -/
def I64 (x : Int) : Prop := -9223372036854775808 ≤ x ∧ x ≤ 9223372036854775807
def AllI64 (xs : List Int) : Prop := ∀ x ∈ xs, I64 x

/-- w' is w after some draws: nothing else has turned. -/
def Drew (w w' : World) : Prop := ∃ m, w' = w.drewN m
theorem Drew.refl (w : World) : Drew w w := ⟨0, rfl⟩
theorem Drew.step {w w' : World} (h : Drew w w') (n : Nat) : Drew w (w'.drewN n) := by
  obtain ⟨m, rfl⟩ := h
  exact ⟨m + n, World.drewN_drewN _ _ _⟩
theorem Drew.trans {a b c : World} (h : Drew a b) (k : Drew b c) : Drew a c := by
  obtain ⟨n, rfl⟩ := k
  exact h.step n
theorem Drew.cell {w w' : World} (h : Drew w w') (p : Addr) : w'.cell? p = w.cell? p := by obtain ⟨m, rfl⟩ := h; rfl
theorem Drew.below {w w' : World} (h : Drew w w') (B : Nat) : Below B w w' := by obtain ⟨m, rfl⟩ := h; exact ⟨rfl, rfl, rfl, Nat.le_refl _, fun _ _ => rfl⟩
theorem Drew.size {w w' : World} (h : Drew w w') : w'.heap.size = w.heap.size := by obtain ⟨m, rfl⟩ := h; rfl
/-- A contract that leaves the world alone, met inside a region that only reads. -/
theorem quiet_same {P : Program} {f : FuncId} {args : Array Value} {w : World} {n : Nat} {v : Value} (h : Calls P f args (w.drewN n) fun e w' => e = .returned v ∧ w.drewN n = w') :
    Calls P f args (w.drewN n) fun e w'' => e = .returned v ∧ ∃ m, w'' = w.drewN m :=
  h.mono fun _ _ ⟨he, hm⟩ => ⟨he, n, hm.symm⟩
/-- A contract that only draws, met inside a region that only reads. -/
theorem quiet_drew {P : Program} {f : FuncId} {args : Array Value} {w : World} {n : Nat} {v : Value} (h : Calls P f args (w.drewN n) fun e w' => e = .returned v ∧ Drew (w.drewN n) w') :
    Calls P f args (w.drewN n) fun e w'' => e = .returned v ∧ ∃ m, w'' = w.drewN m :=
  h.mono fun _ _ ⟨he, hm⟩ => ⟨he, (Drew.step (Drew.refl w) n).trans hm⟩

/-- One call more: what was there when the first began is still there. -/
theorem on {w w1 w2 : World} (h : Below w.heap.size w w1) (k : Below w1.heap.size w1 w2) : Below w.heap.size w w2 :=
  h.trans (k.mono h.size)
theorem onD {B : Nat} {w w1 w2 : World} (h : Below B w w1) (k : Drew w1 w2) : Below B w w2 := h.trans (k.below _)
/-- What was there reads as it did: two rules for the walk. -/
theorem bcell {W w1 : World} (hb : Below W.heap.size W w1) : (∀ b o, b < W.heap.size → w1.cell? ⟨b, o, none⟩ = W.cell? ⟨b, o, none⟩) ∧ (∀ b o, b < W.heap.size → w1.frozen? ⟨b, o, none⟩ = W.frozen? ⟨b, o, none⟩) :=
  ⟨fun b o h => hb.cell (p := ⟨b, o, none⟩) h, fun b o h => hb.frozen (p := ⟨b, o, none⟩) h⟩
/-- A cell of a block that has just been laid, in whatever world behind it. -/
theorem box_cell {w wr : World} {cs : Array Value} {T : TypeId} {i : Nat} {v : Value} (hb : Below (w.heap.size + 1) (w.alloc (.cells cs T)) wr) (hv : cs[i]? = some v) : wr.cell? ⟨w.heap.size, i, none⟩ = some v := by
  rw [hb.cell (p := ⟨w.heap.size, i, none⟩) (Nat.lt_succ_self _)]
  have h : (w.alloc (.cells cs T)).heap[w.heap.size]? = some (.cells cs T) := heap_alloc_new w _
  simp only [World.cell?, h]
  simpa using hv
/-- What lies in memory is below the heap's size. -/
theorem cell_lt {w : World} {p : Addr} {v : Value} (h : w.cell? p = some v) : p.block < w.heap.size := World.block_lt_of_cell? w p h

/-- The slice .slice a n cap reads in w as the list xs of ints. -/
structure Ints (w : World) (a : Option Addr) (n : Nat) (xs : List Int) : Prop where
  len : xs.length = n
  small : n ≤ 9223372036854775807
  cell : ∀ i, i < n → ∃ b off, a = some ⟨b, off, none⟩ ∧ w.cell? ⟨b, off + i, none⟩ = some (.int .i64 (xs.getD i 0))
  rng : AllI64 xs

theorem Ints.drew {w w' : World} {a : Option Addr} {n : Nat} {xs : List Int} (h : Ints w a n xs) (hd : Drew w w') : Ints w' a n xs := by
  obtain ⟨m, rfl⟩ := hd
  exact ⟨h.len, h.small, h.cell, h.rng⟩
theorem Ints.below {w w' : World} {a : Option Addr} {n : Nat} {xs : List Int} (h : Ints w a n xs) (hb : Below w.heap.size w w') : Ints w' a n xs :=
  ⟨h.len, h.small, fun i hi => by
    obtain ⟨b, off, ha, hc⟩ := h.cell i hi
    exact ⟨b, off, ha, by rw [hb.cell (p := ⟨b, off + i, none⟩) (cell_lt hc)]; exact hc⟩, h.rng⟩
theorem Ints.drewN {w : World} {a : Option Addr} {n : Nat} {xs : List Int} (h : Ints w a n xs) (m : Nat) : Ints (w.drewN m) a n xs := h.drew ⟨m, rfl⟩
theorem Ints.get {w : World} {a : Option Addr} {n : Nat} {xs : List Int} (h : Ints w a n xs) {k : Nat} (hk : k < n) :
    ∃ b off x, a = some ⟨b, off, none⟩ ∧ w.cell? ⟨b, off + k, none⟩ = some (.int .i64 x) ∧ Hid (xs.getD k 0 = x) ∧ -9223372036854775808 ≤ x ∧ x ≤ 9223372036854775807 := by
  obtain ⟨b, off, ha, hc⟩ := h.cell k hk
  refine ⟨b, off, _, ha, hc, rfl, ?_⟩
  have hk' : k < xs.length := by have := h.len; omega
  have : xs.getD k 0 ∈ xs := by
    rw [List.getD_eq_getElem?_getD, List.getElem?_eq_getElem hk']; exact List.getElem_mem hk'
  exact h.rng _ this
theorem Ints.drop {w : World} {a : Option Addr} {n : Nat} {xs : List Int} (h : Ints w a n xs) {k : Nat} {x : Int} (hk : k < n) (hx : Hid (xs.getD k 0 = x)) : xs.drop k = x :: xs.drop (k + 1) := by
  rw [drop_cons xs k (by rw [h.len]; exact hk), hx.out]

/-- v is a slice of ints of the call's own (its block from B on), and reads as xs. -/
structure OwnInts (B : Nat) (w : World) (v : Value) (n : Nat) (xs : List Int) : Prop where
  len : xs.length = n
  row : w.ownsRow B 3 1 v n (xs.map (Value.int .i64))
  rng : AllI64 xs

/-- v holds a slice value at the head of a block of its own, or nil. -/
theorem own_form {w : World} {B e size : Nat} {v : Value} {n : Nat} {us : List Value} (h : w.ownsRow B e size v n us) :
    ∃ a cap, v = .slice a n cap ∧ n ≤ 9223372036854775807 ∧ (∀ x, a = some x → B ≤ x.block ∧ x.block < w.heap.size) := by
  rcases h.2 with ⟨rfl, rfl⟩ | ⟨g, cap, cur, rfl, hB, hg, hn, hc, _⟩
  · exact ⟨none, 0, rfl, by omega, by simp⟩
  · refine ⟨_, cap, rfl, by unfold maxLen at hc; omega, ?_⟩
    rintro x hx
    simp at hx
    subst hx
    exact ⟨hB, (Array.getElem?_eq_some_iff.1 hg).1⟩

theorem own_cells {w : World} {B e : Nat} {a : Option Addr} {cap : Nat} {n : Nat} {us : List Value} (h : w.ownsRow B e 1 (.slice a n cap) n us) (i : Nat) (hi : i < n) :
    ∃ g, a = some ⟨g, 0, none⟩ ∧ B ≤ g ∧ w.cell? ⟨g, i, none⟩ = us[i]? ∧ w.frozen? ⟨g, i, none⟩ = false := by
  have h' := h
  rcases h'.2 with ⟨hv, rfl⟩ | ⟨g, c, cur, hv, hB, hg, hn, hc, _⟩
  · omega
  · simp at hv
    obtain ⟨rfl, rfl⟩ := hv
    refine ⟨g, rfl, hB, ?_, h.frozenAt i⟩
    exact h.cellAt i (by omega)

theorem OwnInts.form {B : Nat} {w : World} {v : Value} {n : Nat} {xs : List Int} (h : OwnInts B w v n xs) : ∃ a cap, v = .slice a n cap ∧ Ints w a n xs := by
  obtain ⟨a, cap, rfl, hn, _⟩ := own_form h.row
  refine ⟨a, cap, rfl, h.len, hn, fun i hi => ?_, h.rng⟩
  obtain ⟨g, rfl, _, hc, _⟩ := own_cells h.row i hi
  refine ⟨g, 0, rfl, ?_⟩
  rw [Nat.zero_add, hc, List.getElem?_map, List.getD_eq_getElem?_getD, List.getElem?_eq_getElem (by rw [h.len]; exact hi)]
  rfl
theorem OwnInts.ints {B : Nat} {w : World} {a : Option Addr} {n cap : Nat} {xs : List Int} (h : OwnInts B w (.slice a n cap) n xs) : Ints w a n xs := by
  obtain ⟨a', cap', hv, hi⟩ := h.form
  simp at hv
  obtain ⟨rfl, rfl⟩ := hv
  exact hi
theorem OwnInts.capn {B : Nat} {w : World} {a : Option Addr} {n cap : Nat} {xs : List Int} (h : OwnInts B w (.slice a n cap) n xs) : n ≤ cap ∧ cap ≤ 9223372036854775807 := by
  rcases h.row.2 with ⟨hv, rfl⟩ | ⟨g, c, cur, hv, hB, hg, hn, hc, _⟩
  · simp at hv; omega
  · simp at hv
    obtain ⟨rfl, rfl⟩ := hv
    exact ⟨hn, by unfold maxLen at hc; omega⟩
/-- What the call owns stays when only blocks from some number on have turned, or new ones have come. -/
theorem own_below {w w' : World} {B C e size : Nat} {v : Value} {n : Nat} {us : List Value} (h : w.ownsRow B e size v n us) (hb : Below C w w') (hC : w.heap.size ≤ C) : w'.ownsRow B e size v n us := by
  refine ⟨h.1, ?_⟩
  rcases h.2 with h2 | ⟨g, cap, cur, rfl, hB, hg, r⟩
  · exact .inl h2
  · exact .inr ⟨g, cap, cur, rfl, hB, by rw [hb.block g (by have := (Array.getElem?_eq_some_iff.1 hg).1; omega)]; exact hg, r⟩
theorem OwnInts.below {B : Nat} {w w' : World} {v : Value} {n : Nat} {xs : List Int} (h : OwnInts B w v n xs) (hb : Below w.heap.size w w') : OwnInts B w' v n xs :=
  ⟨h.len, own_below h.row hb (Nat.le_refl _), h.rng⟩
theorem own_base {w : World} {B B' e size : Nat} {v : Value} {n : Nat} {us : List Value} (h : w.ownsRow B e size v n us) (hB : B' ≤ B) : w.ownsRow B' e size v n us := by
  refine ⟨h.1, ?_⟩
  rcases h.2 with h2 | ⟨g, cap, cur, rfl, hg, r⟩
  · exact .inl h2
  · exact .inr ⟨g, cap, cur, rfl, by omega, r⟩
theorem OwnInts.base {B B' : Nat} {w : World} {v : Value} {n : Nat} {xs : List Int} (h : OwnInts B w v n xs) (hB : B' ≤ B) : OwnInts B' w v n xs :=
  ⟨h.len, own_base h.row hB, h.rng⟩
theorem OwnInts.setLow {B : Nat} {w : World} {v : Value} {n : Nat} {xs : List Int} (h : OwnInts B w v n xs) {p : Addr} (hp : p.block < B) (u : Value) : OwnInts B (w.setCell p u) v n xs :=
  ⟨h.len, ownsRow_setCell_below h.row hp u, h.rng⟩
theorem OwnInts.nil (B : Nat) (w : World) : OwnInts B w (.slice none 0 0) 0 [] := ⟨rfl, World.ownsRow_nil _ _ _ _, by intro x hx; cases hx⟩

/-- Between w and w' at most blocks from lo up to hi have turned; none has come. -/
structure Kept (lo hi : Nat) (w w' : World) : Prop where
  os : w'.os = w.os
  tape : w'.tape = w.tape
  output : w'.output = w.output
  size : w'.heap.size = w.heap.size
  block : ∀ k, (k < lo ∨ hi ≤ k) → w'.heap[k]? = w.heap[k]?
theorem Kept.refl (lo hi : Nat) (w : World) : Kept lo hi w w := ⟨rfl, rfl, rfl, rfl, fun _ _ => rfl⟩
theorem Kept.trans {lo hi : Nat} {a b c : World} (h : Kept lo hi a b) (k : Kept lo hi b c) : Kept lo hi a c :=
  ⟨k.os.trans h.os, k.tape.trans h.tape, k.output.trans h.output, k.size.trans h.size, fun i hi => (k.block i hi).trans (h.block i hi)⟩
theorem Kept.mono {lo hi lo' hi' : Nat} {w w' : World} (h : Kept lo hi w w') (h1 : lo' ≤ lo) (h2 : hi ≤ hi') : Kept lo' hi' w w' :=
  ⟨h.os, h.tape, h.output, h.size, fun k hk => h.block k (by omega)⟩
theorem Kept.below {lo hi : Nat} {w w' : World} (h : Kept lo hi w w') : Below lo w w' := ⟨h.os, h.tape, h.output, by rw [h.size]; exact Nat.le_refl _, fun k hk => h.block k (.inl hk)⟩
theorem Kept.setCell {lo hi : Nat} {a w : World} (h : Kept lo hi a w) {p : Addr} (h1 : lo ≤ p.block) (h2 : p.block < hi) (u : Value) : Kept lo hi a (w.setCell p u) :=
  h.trans ⟨rfl, rfl, rfl, by simp [World.setCell], fun k hk => Below.heap_setCell _ _ _ _ (by omega)⟩
theorem Kept.drew {lo hi : Nat} {a w w' : World} (h : Kept lo hi a w) (hd : Drew w w') : Kept lo hi a w' := by
  obtain ⟨m, rfl⟩ := hd
  exact h.trans ⟨rfl, rfl, rfl, rfl, fun _ _ => rfl⟩
/-- The block of a slice value. -/
def blk (v : Value) : Option Nat := v.ownBlock
/-- What is owned outside the blocks that turned stays. -/
theorem own_kept {lo hi : Nat} {w w' : World} {B e size : Nat} {v : Value} {n : Nat} {us : List Value} (h : w.ownsRow B e size v n us) (hk : Kept lo hi w w') (ho : ∀ k, v.ownBlock = some k → k < lo ∨ hi ≤ k) : w'.ownsRow B e size v n us := by
  refine ⟨h.1, ?_⟩
  rcases h.2 with h2 | ⟨g, cap, cur, rfl, hB, hg, r⟩
  · exact .inl h2
  · exact .inr ⟨g, cap, cur, rfl, hB, by rw [hk.block g (ho g rfl)]; exact hg, r⟩
theorem OwnInts.kept {lo hi B : Nat} {w w' : World} {v : Value} {n : Nat} {xs : List Int} (h : OwnInts B w v n xs) (hk : Kept lo hi w w') (ho : ∀ k, v.ownBlock = some k → k < lo ∨ hi ≤ k) : OwnInts B w' v n xs :=
  ⟨h.len, own_kept h.row hk ho, h.rng⟩
theorem Ints.kept {lo hi : Nat} {w w' : World} {a : Option Addr} {n : Nat} {xs : List Int} (h : Ints w a n xs) (hk : Kept lo hi w w') (ho : ∀ x, a = some x → x.block < lo ∨ hi ≤ x.block) : Ints w' a n xs :=
  ⟨h.len, h.small, fun i hi => by
    obtain ⟨b, off, ha, hc⟩ := h.cell i hi
    refine ⟨b, off, ha, ?_⟩
    rw [World.cell?_of_block (w := w) (a := ⟨b, off + i, none⟩) (hk.block b (ho _ ha))]; exact hc, h.rng⟩

theorem infoInt : (Try.prog.info? 3).map (fun i => (i.zero, i.size, i.bytes)) = some (some (.int .i64 0), 1, 8) := by kernel_rfl

theorem grown_below {B : Nat} {w0 w w' : World} {row : Option Nat} (h : Below B w0 w) (hB : B ≤ w.heap.size) (hg : w.grownBy w' row) (hr : ∀ k, row = some k → B ≤ k) : Below B w0 w' := h.grown hg hB hr

/-- 'out = append(out, x)' where x has just been laid in a cell of its own: out grows by one element. -/
theorem wpList_app1 {B : Nat} {w0 W : World} {ops : Array Oper} {rest : List Oper} {o : Oper} {a : Act} {Q : Exit → Act → World → Prop}
    (s x : Operand) (v : Value) (n : Nat) (xs : List Int) (u : Int)
    (hown : OwnInts B W v n xs) (hb : Below B w0 W) (hB : B ≤ W.heap.size) (hu : I64 u) (hn : n ≤ 1000000000000)
    (hgd : o.guard = none) (ho : o.op = .call { callee := .builtin .append, args := #[s, x], argTypes := #[24, 24] })
    (hs : a.eval s = v) (hx : a.eval x = .slice (some ⟨W.heap.size, 0, none⟩) 1 1)
    (h : ∀ v' w', OwnInts B w' v' (n + 1) (xs ++ [u]) → Below B w0 w' → B ≤ w'.heap.size → wpList Try.prog ops Q rest (a.put o.dst v') w') :
    wpList Try.prog ops Q (o :: rest) a (W.alloc (.cells #[.int .i64 u] 3)) := by
  obtain ⟨i, hi, hz0, hz1, hz2⟩ := info_parts infoInt
  refine wpList_append_own _ hgd s x 24 ho B 3 i (.int .i64 0) 1 8 Try.underlying24 hi hz0 hz1 hz2 rfl (by decide) v n (xs.map (Value.int .i64)) hs (hown.row.alloc _)
    ⟨W.heap.size, 0, none⟩ 1 1 [.int .i64 u] hx rfl (cell_one_new _ _ _) (by intro z hz; simp at hz; subst hz; rfl) (by unfold maxLen; omega) (by omega) (by simp; omega) ?_
  intro v' w' h1 h2 _
  have hb' : Below B w0 w' := (hb.alloc hB _).grown h2 (by simp; omega) (fun k hk => (hown.row.lt k hk).1)
  refine h v' w' ⟨by simp [hown.len], by simpa using h1, ?_⟩ hb' ?_
  · intro z hz
    rcases List.mem_append.1 hz with hz | hz
    · exact hown.rng z hz
    · simp at hz; subst hz; exact hu
  · have := h2.size; simp at this; omega

/-- 'make([]int, n)'. -/
theorem wpList_mk {W : World} {ops : Array Oper} {rest : List Oper} {o : Oper} {a : Act} {Q : Exit → Act → World → Prop} (l c : Operand) (n : Nat) (hn : n ≤ 1000000000000)
    (hgd : o.guard = none) (ho : o.op = Op.makeSlice 24 l c) (hl : a.eval l = .int .i64 n) (hc : a.eval c = .int .i64 n)
    (h : ∀ w', w'.ownsRow W.heap.size 3 1 (.slice (some ⟨W.heap.size, 0, none⟩) n n) n ((List.replicate n 0).map (Value.int .i64)) → Below W.heap.size W w' → W.heap.size < w'.heap.size →
      wpList Try.prog ops Q rest (a.put o.dst (.slice (some ⟨W.heap.size, 0, none⟩) n n)) w') :
    wpList Try.prog ops Q (o :: rest) a W := by
  obtain ⟨i, hi, hz0, hz1, hz2⟩ := info_parts infoInt
  refine wpList_make_full W hgd l c 24 ho W.heap.size 3 i (.int .i64 0) 1 Try.underlying24 hi hz0 hz1 .i64 .i64 n n n hl hc rfl rfl (by rw [hz2]; omega) (by unfold maxLen; omega) (Nat.le_refl _) ?_
  intro w1 hown hgrow
  have hb1 : Below W.heap.size W w1 := (Below.refl _ _).grown hgrow (Nat.le_refl _) (by intro k hk; cases hk)
  refine h w1 ?_ hb1 ((hown.lt W.heap.size rfl).2)
  have e : (List.replicate n (0 : Int)).map (Value.int .i64) = (madeCells (Value.int .i64 0).cells (n * 1)).toList := by
    rw [show (Value.int .i64 0).cells = #[.int .i64 0] from rfl, toList_madeCells_one]; simp
  rw [e]; exact hown

/-- '[]int{}': an empty slice of the call's own. -/
theorem own_empty {B : Nat} {W : World} (hB : B ≤ W.heap.size) : OwnInts B (W.alloc (.cells #[] 3)) (.slice (some ⟨W.heap.size, 0, none⟩) 0 0) 0 [] :=
  ⟨rfl, World.ownsRow_made W #[] 0 hB (by unfold maxLen; omega) rfl, by intro x hx; cases hx⟩

end Go.Proofs.Ytehcjdbljdpmbaa

/- Contracts: comparing rows of ints. -/
namespace Go.Proofs.Ytehcjdbljdpmbaa
open Go.RowKit
set_option linter.unusedVariables false
set_option linter.unusedSimpArgs false

/-- Rows in the order of dictionaries: -1, 0, 1. -/
def cmpRows : List Int → List Int → Int
  | [], [] => 0
  | [], _ :: _ => -1
  | _ :: _, [] => 1
  | x :: xs, y :: ys => if x < y then -1 else if y < x then 1 else cmpRows xs ys
theorem cmpRows_rng : ∀ (a b : List Int), cmpRows a b = -1 ∨ cmpRows a b = 0 ∨ cmpRows a b = 1
  | [], [] => by simp [cmpRows]
  | [], _ :: _ => by simp [cmpRows]
  | _ :: _, [] => by simp [cmpRows]
  | x :: xs, y :: ys => by
    rw [cmpRows]
    split
    · exact .inl rfl
    · split
      · exact .inr (.inr rfl)
      · exact cmpRows_rng xs ys
theorem cmpRows_zero : ∀ (a b : List Int), cmpRows a b = 0 ↔ a = b
  | [], [] => by simp [cmpRows]
  | [], _ :: _ => by simp [cmpRows]
  | _ :: _, [] => by simp [cmpRows]
  | x :: xs, y :: ys => by
    rw [cmpRows]
    split
    · constructor
      · intro h; simp at h
      · intro h; simp at h; omega
    · split
      · constructor
        · intro h; simp at h
        · intro h; simp at h; omega
      · rw [cmpRows_zero xs ys]
        have : x = y := by omega
        simp [this]
theorem cmpRows_self (a : List Int) : cmpRows a a = 0 := (cmpRows_zero a a).2 rfl
theorem cmpRows_swap : ∀ (a b : List Int), cmpRows b a = - cmpRows a b
  | [], [] => by simp [cmpRows]
  | [], _ :: _ => by simp [cmpRows]
  | _ :: _, [] => by simp [cmpRows]
  | x :: xs, y :: ys => by
    rw [cmpRows, cmpRows]
    have ih := cmpRows_swap xs ys
    by_cases h1 : x < y
    · have h2 : ¬ y < x := by omega
      simp [h1, h2]
    · by_cases h2 : y < x
      · simp [h1, h2]
      · simp [h1, h2, ih]
theorem cmpRows_trans : ∀ (a b c : List Int), cmpRows a b = -1 → cmpRows b c = -1 → cmpRows a c = -1
  | [], [], c, h, _ => by simp [cmpRows] at h
  | [], _ :: _, [], _, h => by simp [cmpRows] at h
  | [], _ :: _, _ :: _, _, _ => by simp [cmpRows]
  | _ :: _, [], c, h, _ => by simp [cmpRows] at h
  | _ :: _, _ :: _, [], _, h => by simp [cmpRows] at h
  | x :: xs, y :: ys, z :: zs, h1, h2 => by
    rw [cmpRows] at h1 h2 ⊢
    by_cases hxy : x < y
    · by_cases hyz : y < z
      · rw [if_pos (by omega)]
      · rw [if_neg hyz] at h2
        by_cases hzy : z < y
        · rw [if_pos hzy] at h2; simp at h2
        · rw [if_pos (by omega)]
    · rw [if_neg hxy] at h1
      by_cases hyx : y < x
      · rw [if_pos hyx] at h1; simp at h1
      · rw [if_neg hyx] at h1
        have : x = y := by omega
        subst this
        by_cases hyz : x < z
        · rw [if_pos hyz]
        · rw [if_neg hyz] at h2 ⊢
          by_cases hzy : z < x
          · rw [if_pos hzy] at h2; simp at h2
          · rw [if_neg hzy] at h2 ⊢
            exact cmpRows_trans xs ys zs h1 h2

theorem cmp_lt {x y : Int} {a b : List Int} (h : x < y) : cmpRows (x :: a) (y :: b) = -1 := by rw [cmpRows, if_pos h]
theorem cmp_gt {x y : Int} {a b : List Int} (h : y < x) : cmpRows (x :: a) (y :: b) = 1 := by rw [cmpRows, if_neg (by omega), if_pos h]
theorem cmp_eq {x y : Int} {a b : List Int} (h : x = y) : cmpRows (x :: a) (y :: b) = cmpRows a b := by subst h; rw [cmpRows, if_neg (by omega), if_neg (by omega)]

set_option maxHeartbeats 800000 in
theorem cmp_spec (a b : Option Addr) (n m cap cap' : Nat) (xs ys : List Int) (w : World) (h : Ints w a n xs) (h' : Ints w b m ys) :
    Calls Try.prog 56 #[.slice a n cap, .slice b m cap'] w fun e w' => e = .returned (.int .i64 (cmpRows xs ys)) ∧ Drew w w' := by
  have hn := h.small
  have hm := h'.small
  have hl := h.len
  have hl' := h'.len
  go_enter Try.func56, Try.ntmps56
  go_wp2
  go_loopw [5] (fun i wr => ∃ j : Nat, j ≤ n ∧ j ≤ m ∧ i = .int .i64 j ∧ Hid (cmpRows xs ys = cmpRows (xs.drop j) (ys.drop j)) ∧ Drew w wr) (fun i _ => n - (intOf i).toNat)
  case atStart => exact ⟨0, Nat.zero_le _, Nat.zero_le _, rfl, rfl, Drew.refl _⟩
  case round =>
    obtain ⟨j, hj, hjm, rfl, hE, hdr⟩ := hrel
    replace h := h.drew hdr
    replace h' := h'.drew hdr
    by_cases hlt : j < n
    · by_cases hlm : j < m
      · obtain ⟨b1, o1, x, rfl, hc1, hx, _, _⟩ := h.get hlt
        obtain ⟨b2, o2, y, rfl, hc2, hy, _, _⟩ := h'.get hlm
        have HD := Lib.hid (show cmpRows xs ys = cmpRows (x :: xs.drop (j + 1)) (y :: ys.drop (j + 1)) by rw [hE.out, h.drop hlt hx, h'.drop hlm hy])
        clear hl hl' h h'
        by_cases h1 : x < y
        · have HE := Lib.hid (HD.out.trans (cmp_lt h1))
          go_wp2
          go_quiet (fail)
          go_wp2
          go_ret
          exact ⟨ret_int HE.out.symm, by first | exact hdr.step _ | exact (hdr.step _).step _⟩
        · by_cases h2 : y < x
          · have HE := Lib.hid (HD.out.trans (cmp_gt h2))
            go_wp2
            go_quiet (fail)
            go_wp2
            go_quiet (fail)
            go_wp2
            go_ret
            exact ⟨ret_int HE.out.symm, by first | exact hdr.step _ | exact (hdr.step _).step _⟩
          · have HE := Lib.hid (HD.out.trans (cmp_eq (show x = y by omega)))
            go_wp2
            go_quiet (fail)
            go_wp2
            go_quiet (fail)
            go_wp2
            go_roundw
            case rel => exact ⟨j + 1, by omega, by omega, by go_num, HE.out, by first | exact hdr.step _ | exact (hdr.step _).step _⟩
            case measure => simp [intOf]; omega
      · -- the second is at its end
        have HE := Lib.hid (show cmpRows xs ys = 1 by
          rw [hE.out, List.drop_of_length_le (l := ys) (by omega), drop_cons xs j (by omega)]; rfl)
        have hmn : m < n := by omega
        clear hl hl' h h'
        go_wp2
        go_ret
        exact ⟨ret_int HE.out.symm, hdr⟩
    · obtain rfl : j = n := by omega
      by_cases hlm : j < m
      · have HE := Lib.hid (show cmpRows xs ys = -1 by
          rw [hE.out, List.drop_of_length_le (l := xs) (by omega), drop_cons ys j (by omega)]; rfl)
        clear hl hl' h h'
        go_wp2
        go_ret
        exact ⟨ret_int HE.out.symm, hdr⟩
      · have HE := Lib.hid (show cmpRows xs ys = 0 by
          rw [hE.out, List.drop_of_length_le (l := xs) (by omega), List.drop_of_length_le (l := ys) (by omega)]; rfl)
        clear hl hl' h h'
        go_wp2
        go_ret
        exact ⟨ret_int HE.out.symm, hdr⟩

end Go.Proofs.Ytehcjdbljdpmbaa

/- Contracts: ranges, and what a degree sequence is. -/
namespace Go.Proofs.Ytehcjdbljdpmbaa
open Go.RowKit
set_option linter.unusedVariables false
set_option linter.unusedSimpArgs false

def betw (n a b : Int) : Bool := decide (a ≤ n) && decide (n ≤ b)

theorem within_any (n a b : Int) (w : World) :
    Calls Try.prog 51 #[.int .i64 n, .int .i64 a, .int .i64 b] w fun e w' => e = .returned (.bool (betw n a b)) ∧ w = w' := by
  go_enter Try.func51, Try.ntmps51
  go_wp2
  all_goals go_ret
  all_goals (unfold betw; simp [*])
  exact fun h => by omega

/-- Whether the rest of a list may follow: each from 1 to what is left, none above its predecessor. -/
def degFrom (left prev : Int) : List Int → Bool
  | [] => true
  | d :: t => (betw d 1 left && decide (d ≤ prev)) && degFrom (left - d) d t

def isDeg (xs : List Int) : Bool := degFrom 8 8 xs

theorem deg_no {left prev x : Int} {t : List Int} (h : betw x 1 left = false) : degFrom left prev (x :: t) = false := by simp [degFrom, h]
theorem deg_up {left prev x : Int} {t : List Int} (h : ¬ x ≤ prev) : degFrom left prev (x :: t) = false := by simp [degFrom, h]
theorem deg_on {left prev x : Int} {t : List Int} (h : betw x 1 left = true) (h' : x ≤ prev) : degFrom left prev (x :: t) = degFrom (left - x) x t := by simp [degFrom, h, h']

set_option maxHeartbeats 400000 in
theorem isDeg_impl (a : Option Addr) (n cap : Nat) (xs : List Int) (w : World) (h : Ints w a n xs) :
    Calls Try.prog 43 #[.slice a n cap] w fun e w' => e = .returned (.bool (isDeg xs)) ∧ w = w' := by
  have hn := h.small
  have hl := h.len
  go_enter Try.func43, Try.ntmps43
  go_wp2
  go_loop [3, 4, 5, 8] (fun l _ _ k => ∃ (j : Nat) (left prev : Int), j ≤ n ∧ k = .int .i64 j ∧ l = .int .i64 left ∧ 0 ≤ left ∧ left ≤ 8 ∧
      (j = 0 → left ≤ prev) ∧ (0 < j → prev = xs.getD (j - 1) 0) ∧ Hid (isDeg xs = degFrom left prev (xs.drop j)))
    (fun _ _ _ k => n - (intOf k).toNat)
  case atStart => exact ⟨0, 8, 8, Nat.zero_le _, rfl, rfl, by omega, by omega, by omega, by omega, rfl⟩
  case round =>
    obtain ⟨j, left, prev, hj, rfl, rfl, hl0, hl8, hp0, hp1, hE⟩ := hrel
    by_cases hlt : j < n
    · obtain ⟨b, off, x, rfl, hc, hx, hx1, hx2⟩ := h.get hlt
      have HD : Hid (isDeg xs = degFrom left prev (x :: xs.drop (j + 1))) := by
        rw [hE.out, drop_cons xs j (by omega), hx.out]; exact rfl
      clear hl hE
      by_cases hb : 1 ≤ x ∧ x ≤ left
      · have hbH := Lib.hid (show betw x 1 left = true by unfold betw; simp [hb.1, hb.2])
        obtain ⟨hb1, hb2⟩ := hb
        have hbt := hbH.out
        by_cases h0 : j = 0
        · subst h0
          clear h
          simp only [Nat.add_zero] at hc
          have hpx : x ≤ prev := by have := hp0 rfl; omega
          clear hp0 hp1
          go_wp2_with (go_at_call 51; refine (within_any _ _ _ _).mono ?_; rintro e w' ⟨rfl, rfl⟩)
          go_round
          case rel => exact ⟨1, left - x, x, by omega, by go_num, rfl, by omega, by omega, by omega, fun _ => hx.out.symm, (HD.out.trans (deg_on hbH.out hpx) : _)⟩
          case measure => simp [intOf]; omega
        · obtain ⟨b', off', y, hab, hcy, hy, hy1, hy2⟩ := h.get (k := j - 1) (by omega)
          obtain ⟨rfl, rfl⟩ : b = b' ∧ off = off' := by simpa using hab
          obtain rfl : prev = y := by rw [hp1 (by omega), hy.out]
          clear h hab hp0 hp1
          by_cases hyx : x ≤ prev
          · go_wp2_with (go_at_call 51; refine (within_any _ _ _ _).mono ?_; rintro e w' ⟨rfl, rfl⟩)
            go_round
            case rel => exact ⟨j + 1, left - x, x, by omega, by go_num, rfl, by omega, by omega, by omega, fun _ => hx.out.symm, (HD.out.trans (deg_on hbH.out hyx) : _)⟩
            case measure => simp [intOf]; omega
          · have hfin := Lib.hid (HD.out.trans (deg_up hyx))
            go_wp2_with (go_at_call 51; refine (within_any _ _ _ _).mono ?_; rintro e w' ⟨rfl, rfl⟩)
            go_ret
            exact ⟨ret_bool hfin.out.symm, rfl⟩
      · have hbt : betw x 1 left = false := by unfold betw; simp; omega
        have hfin := Lib.hid (HD.out.trans (deg_no hbt))
        clear h
        go_wp2_with (go_at_call 51; refine (within_any _ _ _ _).mono ?_; rintro e w' ⟨rfl, rfl⟩)
        go_ret
        exact ⟨ret_bool hfin.out.symm, rfl⟩
    · have hfin := Lib.hid (hE.out.trans (by rw [List.drop_of_length_le (by omega)]; rfl : _ = true))
      go_wp2
      go_ret
      exact ⟨ret_bool hfin.out.symm, rfl⟩

theorem l1In_any (n a b : Int) (w : World) :
    Calls Try.prog 50 #[.int .i64 n, .int .i64 a, .int .i64 b] w fun e w' => e = .returned (.bool (betw n a b)) ∧ w = w' := by
  go_enter Try.func50, Try.ntmps50
  go_wp2
  all_goals go_ret
  all_goals (unfold betw; simp [*])
  exact fun h => by omega

set_option maxHeartbeats 400000 in
theorem isDeg_spec (a : Option Addr) (n cap : Nat) (xs : List Int) (w : World) (h : Ints w a n xs) :
    Calls Try.prog 12 #[.slice a n cap] w fun e w' => e = .returned (.bool (isDeg xs)) ∧ Drew w w' := by
  have hn := h.small
  have hl := h.len
  go_enter Try.func12, Try.ntmps12
  go_wp2
  go_loopw [3, 4] (fun s k wr => ∃ (j : Nat) (left prev : Int), j ≤ n ∧ k = .int .i64 j ∧ s = .int .i64 (8 - left) ∧ 0 ≤ left ∧ left ≤ 8 ∧
      (j = 0 → left ≤ prev) ∧ (0 < j → prev = xs.getD (j - 1) 0) ∧ Hid (isDeg xs = degFrom left prev (xs.drop j)) ∧ Drew w wr)
    (fun _ k _ => n - (intOf k).toNat)
  case atStart => exact ⟨0, 8, 8, Nat.zero_le _, rfl, rfl, by omega, by omega, by omega, by omega, rfl, Drew.refl _⟩
  case round =>
    obtain ⟨j, left, prev, hj, rfl, rfl, hl0, hl8, hp0, hp1, hE, hdr⟩ := hrel
    replace h := h.drew hdr
    by_cases hlt : j < n
    · obtain ⟨b, off, x, rfl, hc, hx, hx1, hx2⟩ := h.get hlt
      have HD : Hid (isDeg xs = degFrom left prev (x :: xs.drop (j + 1))) := by
        rw [hE.out, drop_cons xs j (by omega), hx.out]; exact rfl
      clear hl hE
      by_cases hb : 1 ≤ x ∧ x ≤ left
      · have hbH := Lib.hid (show betw x 1 left = true by unfold betw; simp [hb.1, hb.2])
        obtain ⟨hb1, hb2⟩ := hb
        have hbt := hbH.out
        by_cases h0 : j = 0
        · have hpx : x ≤ prev := by have := hp0 h0; omega
          have H0 := Lib.hid h0
          clear hp0 hp1 h h0
          have hg : decide (0 < j) = false := by simp; exact H0.out
          have hw : IntKind.i64.wrap (8 - (8 - left)) = left := by rw [IntWalk.i64_in _ (by omega)]; omega
          go_wp2
          go_quiet ((go_at_call 50; exact quiet_same (l1In_any _ _ _ _)))
          go_wp2
          go_roundw
          case rel => exact ⟨j + 1, left - x, x, by omega, by go_num, by go_num, by omega, by omega, by omega, fun _ => hx.out.symm, (HD.out.trans (deg_on hbH.out hpx) : _), hdr.step _⟩
          case measure => simp [intOf]; omega
        · obtain ⟨b', off', y, hab, hcy, hy, hy1, hy2⟩ := h.get (k := j - 1) (by omega)
          obtain ⟨rfl, rfl⟩ : b = b' ∧ off = off' := by simpa using hab
          obtain rfl : prev = y := by rw [hp1 (by omega), hy.out]
          clear h hab hp0 hp1
          have hg : decide (0 < j) = true := by simp; omega
          have hw : IntKind.i64.wrap (8 - (8 - left)) = left := by rw [IntWalk.i64_in _ (by omega)]; omega
          have hw2 : IntKind.i64.wrap ((j : Int) - 1) = (j : Int) - 1 := IntWalk.i64_in _ (by omega)
          have hw3 : ((j : Int) - 1).toNat = j - 1 := by omega
          have hw4 : 0 ≤ (j : Int) - 1 := by omega
          have hw5 : 1 ≤ (j : Int) := by omega
          by_cases hyx : x ≤ prev
          · go_wp2
            go_quiet ((go_at_call 50; exact quiet_same (l1In_any _ _ _ _)))
            go_wp2
            go_roundw
            case rel => exact ⟨j + 1, left - x, x, by omega, by go_num, by go_num, by omega, by omega, by omega, fun _ => hx.out.symm, (HD.out.trans (deg_on hbH.out hyx) : _), hdr.step _⟩
            case measure => simp [intOf]; omega
          · have hfin := Lib.hid (HD.out.trans (deg_up hyx))
            go_wp2
            go_quiet ((go_at_call 50; exact quiet_same (l1In_any _ _ _ _)))
            go_wp2
            go_ret
            exact ⟨ret_bool hfin.out.symm, hdr.step _⟩
      · have hbt : betw x 1 left = false := by unfold betw; simp; omega
        have hfin := Lib.hid (HD.out.trans (deg_no hbt))
        clear h
        have hw : IntKind.i64.wrap (8 - (8 - left)) = left := by rw [IntWalk.i64_in _ (by omega)]; omega
        go_wp2
        go_quiet ((go_at_call 50; exact quiet_same (l1In_any _ _ _ _)))
        go_wp2
        go_ret
        exact ⟨ret_bool hfin.out.symm, hdr.step _⟩
    · have hfin := Lib.hid (hE.out.trans (by rw [List.drop_of_length_le (by omega)]; rfl : _ = true))
      go_wp2
      go_ret
      exact ⟨ret_bool hfin.out.symm, hdr⟩

end Go.Proofs.Ytehcjdbljdpmbaa

/- Contracts: whether a number is among some. -/
namespace Go.Proofs.Ytehcjdbljdpmbaa
open Go.RowKit
set_option linter.unusedVariables false
set_option linter.unusedSimpArgs false

/-- Whether x is among xs. -/
def has (xs : List Int) (x : Int) : Bool := decide (x ∈ xs)
theorem has_take_no {xs : List Int} {j : Nat} {x : Int} (h : x ∉ xs.take j) (hj : xs.length ≤ j) : has xs x = false := by
  rw [List.take_of_length_le hj] at h
  simpa [has] using h
theorem has_yes {xs : List Int} {j : Nat} {x : Int} (hj : j < xs.length) (h : xs.getD j 0 = x) : has xs x = true := by
  have : xs.getD j 0 ∈ xs := by rw [List.getD_eq_getElem?_getD, List.getElem?_eq_getElem hj]; exact List.getElem_mem hj
  rw [h] at this
  simpa [has] using this
theorem not_mem_snoc {xs : List Int} {j : Nat} {x y : Int} (h : x ∉ xs.take j) (hj : j < xs.length) (hy : xs.getD j 0 = y) (hne : y ≠ x) : x ∉ xs.take (j + 1) := by
  rw [take_snoc xs j hj, hy]
  simp only [List.mem_append, List.mem_singleton]
  rintro (h' | h')
  · exact h h'
  · exact hne h'.symm

set_option maxHeartbeats 400000 in
theorem l7Has_any (a : Option Addr) (n cap : Nat) (xs : List Int) (x : Int) (w : World) (h : Ints w a n xs) :
    Calls Try.prog 72 #[.slice a n cap, .int .i64 x] w fun e w' => e = .returned (.bool (has xs x)) ∧ w = w' := by
  have hn := h.small
  have hl := h.len
  go_enter Try.func72, Try.ntmps72
  go_wp2
  go_loop [5] (fun i => ∃ j : Nat, j ≤ n ∧ i = .int .i64 j ∧ Hid (x ∉ xs.take j)) (fun i => n - (intOf i).toNat)
  case atStart => exact ⟨0, Nat.zero_le _, rfl, by simp [Hid]⟩
  case round =>
    obtain ⟨j, hj, rfl, hE⟩ := hrel
    by_cases hlt : j < n
    · obtain ⟨b, off, y, rfl, hc, hy, hy1, hy2⟩ := h.get hlt
      by_cases hyx : y = x
      · have HE := Lib.hid (has_yes (by omega) (hy.out.trans hyx))
        subst hyx
        clear h hl
        go_wp2
        go_ret
        exact ⟨ret_bool HE.out.symm, rfl⟩
      · have HE := Lib.hid (not_mem_snoc hE.out (by omega) hy.out hyx)
        have hne : (y == x) = false := by rw [beq_eq_false_iff_ne]; exact hyx
        clear h hl hyx
        go_wp2
        go_round
        case rel => exact ⟨j + 1, by omega, by go_num, HE.out⟩
        case measure => simp [intOf]; omega
    · have HE := Lib.hid (has_take_no hE.out (by omega))
      clear h hl
      go_wp2
      go_ret
      exact ⟨ret_bool HE.out.symm, rfl⟩

set_option maxHeartbeats 400000 in
theorem index_any (a : Option Addr) (n cap : Nat) (xs : List Int) (x : Int) (w : World) (h : Ints w a n xs) :
    Calls Try.prog 111 #[.slice a n cap, .int .i64 x] w fun e w' => ∃ r : Int, e = .returned (.int .i64 r) ∧ decide (0 ≤ r) = has xs x ∧ w = w' := by
  have hn := h.small
  have hl := h.len
  go_enter Try.func111, Try.ntmps111
  go_wp2
  go_loop [5, 8] (fun _ i => ∃ j : Nat, j ≤ n ∧ i = .int .i64 j ∧ Hid (x ∉ xs.take j)) (fun _ i => n - (intOf i).toNat)
  case atStart => exact ⟨0, Nat.zero_le _, rfl, by simp [Hid]⟩
  case round =>
    obtain ⟨j, hj, rfl, hE⟩ := hrel
    by_cases hlt : j < n
    · obtain ⟨b, off, y, rfl, hc, hy, hy1, hy2⟩ := h.get hlt
      by_cases hyx : y = x
      · have HE := Lib.hid (has_yes (by omega) (hy.out.trans hyx))
        subst hyx
        clear h hl
        go_wp2
        go_ret
        exact ⟨_, rfl, by rw [HE.out]; simp, rfl⟩
      · have HE := Lib.hid (not_mem_snoc hE.out (by omega) hy.out hyx)
        have hne : (x == y) = false := by rw [beq_eq_false_iff_ne]; exact fun e => hyx e.symm
        clear h hl hyx
        go_wp2
        go_round
        case rel => exact ⟨j + 1, by omega, by go_num, HE.out⟩
        case measure => simp [intOf]; omega
    · have HE := Lib.hid (has_take_no hE.out (by omega))
      clear h hl
      go_wp2
      go_ret
      exact ⟨_, rfl, by rw [HE.out]; rfl, rfl⟩

set_option maxHeartbeats 400000 in
theorem contains_any (a : Option Addr) (n cap : Nat) (xs : List Int) (x : Int) (w : World) (h : Ints w a n xs) :
    Calls Try.prog 94 #[.slice a n cap, .int .i64 x] w fun e w' => e = .returned (.bool (has xs x)) ∧ w = w' := by
  go_enter Try.func94, Try.ntmps94
  go_wp2_with fail
  refine (index_any _ _ _ _ _ _ h).mono ?_
  rintro e w' ⟨r, rfl, hr, rfl⟩
  have HR := Lib.hid hr
  clear hr
  go_wp2_with fail
  go_ret
  exact ⟨ret_bool HR.out, rfl⟩

end Go.Proofs.Ytehcjdbljdpmbaa

/- Contracts: the laws' own helpers on slices of ints: copying, comparing, marking, looking for the marks. -/
namespace Go.Proofs.Ytehcjdbljdpmbaa
open Go.RowKit
set_option linter.unusedVariables false
set_option linter.unusedSimpArgs false

/-- The first k are copied, the rest is nought yet. -/
def copied (xs : List Int) (n k : Nat) : List Int := xs.take k ++ List.replicate (n - k) 0

theorem copied_step (xs : List Int) (n k : Nat) (hn : xs.length = n) (hk : k < n) : (copied xs n k).set k (xs.getD k 0) = copied xs n (k + 1) := by
  unfold copied
  rw [take_snoc xs k (by omega), List.set_append_right _ _ (by simp; omega)]
  rw [show k - (xs.take k).length = 0 by simp; omega, show n - k = (n - (k + 1)) + 1 by omega, List.replicate_succ]
  simp

theorem take_same {xs ys : List Int} {k : Nat} (h1 : k < xs.length) (h2 : k < ys.length) (he : xs.take k = ys.take k) (hx : xs.getD k 0 = ys.getD k 0) : xs.take (k + 1) = ys.take (k + 1) := by
  rw [take_snoc xs k h1, take_snoc ys k h2, he, hx]

/-- The marks k, k + 1, .. in n places. -/
def marks (k : Int) (n : Nat) : List Int := (List.range n).map fun i : Nat => k + (i : Int)
theorem marks_length (k : Int) (n : Nat) : (marks k n).length = n := by simp [marks]
theorem marks_get (k : Int) (n i : Nat) (h : i < n) : (marks k n).getD i 0 = k + i := by simp [marks, h]
theorem marks_rng (k : Int) (n : Nat) (h0 : 0 ≤ k) (h1 : k ≤ 1000000000000) (h2 : n ≤ 1000000000000) : AllI64 (marks k n) := by
  intro x hx
  simp only [marks, List.mem_map, List.mem_range] at hx
  obtain ⟨i, hi, rfl⟩ := hx
  constructor <;> omega
/-- The first j are marked, the rest reads as it did. -/
def marked (k : Int) (xs : List Int) (j : Nat) : List Int := marks k j ++ xs.drop j
theorem marked_step (k : Int) (xs : List Int) (j : Nat) (h : j < xs.length) : (marked k xs j).set j (k + j) = marked k xs (j + 1) := by
  unfold marked
  rw [List.set_append_right _ _ (by simp [marks]), drop_cons xs j h]
  simp [marks, List.range_succ]
theorem marked_all (k : Int) (xs : List Int) : marked k xs xs.length = marks k xs.length := by simp [marked]

end Go.Proofs.Ytehcjdbljdpmbaa

/- Data in memory, by shape: how it reads (RS), and how it is owned, block by block (OS); what a later world keeps of it. -/
namespace Go.Proofs.Ytehcjdbljdpmbaa
open Go.RowKit
set_option linter.unusedVariables false
set_option linter.unusedSimpArgs false

/-- A shape that can be read: so many cells, and what they read as. -/
structure RS (α : Type) where
  size : Nat
  rep : World → List Value → α → Prop
  len : ∀ {w cs x}, rep w cs x → cs.length = size
  mono : ∀ {w w' cs x}, rep w cs x → Below w.heap.size w w' → rep w' cs x

/-- A shape that is owned: so many cells, what they read as, and the blocks where it lies. -/
structure OS (α : Type) where
  size : Nat
  rep : World → List Value → α → List Nat → Prop
  len : ∀ {w cs x fp}, rep w cs x fp → cs.length = size
  frame : ∀ {w w' cs x fp}, rep w cs x fp → (∀ k ∈ fp, w'.heap[k]? = w.heap[k]?) → rep w' cs x fp
  lt : ∀ {w cs x fp}, rep w cs x fp → ∀ k ∈ fp, k < w.heap.size

def R.int : RS Int := ⟨1, fun _ cs x => cs = [.int .i64 x] ∧ I64 x, fun h => by rw [h.1]; rfl, fun h _ => h⟩
def R.str : RS ByteArray := ⟨1, fun _ cs s => cs = [.string s] ∧ s.size ≤ 9223372036854775807, fun h => by rw [h.1]; rfl, fun h _ => h⟩
def R.bool : RS Bool := ⟨1, fun _ cs b => cs = [.bool b], fun h => by rw [h]; rfl, fun h _ => h⟩
def R.pair {α β : Type} (a : RS α) (b : RS β) : RS (α × β) :=
  ⟨a.size + b.size, fun w cs x => ∃ c1 c2, cs = c1 ++ c2 ∧ a.rep w c1 x.1 ∧ b.rep w c2 x.2,
    fun ⟨c1, c2, h, h1, h2⟩ => by rw [h, List.length_append, a.len h1, b.len h2],
    fun ⟨c1, c2, h, h1, h2⟩ hb => ⟨c1, c2, h, a.mono h1 hb, b.mono h2 hb⟩⟩

/-- A slice .slice a n cap whose elements read by the shape r as xs. -/
structure Sl {α : Type} (r : RS α) (w : World) (a : Option Addr) (n : Nat) (xs : List α) : Prop where
  len : xs.length = n
  small : n ≤ 9223372036854775807
  elem : ∀ i x, xs[i]? = some x → ∃ b off cs, a = some ⟨b, off, none⟩ ∧ r.rep w cs x ∧ ∀ j u, cs[j]? = some u → w.cell? ⟨b, off + (i * r.size + j), none⟩ = some u

theorem Sl.below {α : Type} {r : RS α} {w w' : World} {a : Option Addr} {n : Nat} {xs : List α} (h : Sl r w a n xs) (hb : Below w.heap.size w w') : Sl r w' a n xs :=
  ⟨h.len, h.small, fun i x hx => by
    obtain ⟨b, off, cs, ha, hr, hc⟩ := h.elem i x hx
    refine ⟨b, off, cs, ha, r.mono hr hb, fun j u hu => ?_⟩
    have := hc j u hu
    rw [hb.cell (p := ⟨b, off + (i * r.size + j), none⟩) (cell_lt this)]
    exact this⟩
theorem Sl.drew {α : Type} {r : RS α} {w w' : World} {a : Option Addr} {n : Nat} {xs : List α} (h : Sl r w a n xs) (hd : Drew w w') : Sl r w' a n xs := h.below (hd.below _)
theorem Sl.drewN {α : Type} {r : RS α} {w : World} {a : Option Addr} {n : Nat} {xs : List α} (h : Sl r w a n xs) (m : Nat) : Sl r (w.drewN m) a n xs := h.drew ⟨m, rfl⟩
def R.slice {α : Type} (r : RS α) : RS (List α) :=
  ⟨1, fun w cs xs => ∃ a n cap, cs = [.slice a n cap] ∧ n ≤ cap ∧ cap ≤ 9223372036854775807 ∧ Sl r w a n xs, fun ⟨_, _, _, h, _⟩ => by rw [h]; rfl,
    fun ⟨a, n, cap, h, h1, h2, hs⟩ hb => ⟨a, n, cap, h, h1, h2, hs.below hb⟩⟩

/-- A slice of ints, both ways. -/
theorem Ints.sl {w : World} {a : Option Addr} {n : Nat} {xs : List Int} (h : Ints w a n xs) : Sl R.int w a n xs :=
  ⟨h.len, h.small, fun i x hx => by
    have hi : i < n := by rw [← h.len]; exact (List.getElem?_eq_some_iff.1 hx).1
    obtain ⟨b, off, ha, hc⟩ := h.cell i hi
    have e : xs.getD i 0 = x := by rw [List.getD_eq_getElem?_getD, hx]; rfl
    rw [e] at hc
    refine ⟨b, off, [.int .i64 x], ha, ⟨rfl, h.rng x (List.mem_of_getElem? hx)⟩, fun j u hu => ?_⟩
    cases j with
    | zero => simp at hu; subst hu; simpa [R.int] using hc
    | succ j => simp at hu⟩
theorem Sl.ints {w : World} {a : Option Addr} {n : Nat} {xs : List Int} (h : Sl R.int w a n xs) : Ints w a n xs :=
  ⟨h.len, h.small, fun i hi => by
    have hx : xs[i]? = some (xs.getD i 0) := by
      rw [List.getD_eq_getElem?_getD, List.getElem?_eq_getElem (by rw [h.len]; exact hi)]; rfl
    obtain ⟨b, off, cs, ha, ⟨rfl, _⟩, hc⟩ := h.elem i _ hx
    exact ⟨b, off, ha, by simpa [R.int] using hc 0 _ rfl⟩, fun x hx => by
    obtain ⟨i, hi, rfl⟩ := List.mem_iff_getElem.1 hx
    obtain ⟨b, off, cs, ha, ⟨_, h2⟩, hc⟩ := h.elem i _ (List.getElem?_eq_getElem hi)
    exact h2⟩
/-- An element of one cell. -/
theorem Sl.get {α : Type} {r : RS α} {w : World} {a : Option Addr} {n : Nat} {xs : List α} (h : Sl r w a n xs) (hr : r.size = 1) {k : Nat} (hk : k < n) :
    ∃ b off v x, a = some ⟨b, off, none⟩ ∧ w.cell? ⟨b, off + k, none⟩ = some v ∧ Hid (xs[k]? = some x) ∧ r.rep w [v] x := by
  have hk' : k < xs.length := by rw [h.len]; exact hk
  obtain ⟨b, off, cs, ha, hrep, hc⟩ := h.elem k _ (List.getElem?_eq_getElem hk')
  have hl := r.len hrep
  rw [hr] at hl
  match cs, hl with
  | [v], _ => exact ⟨b, off, v, _, ha, by simpa [hr] using hc 0 v rfl, List.getElem?_eq_getElem hk', hrep⟩

/-- A slice of slices of ints: one row. -/
theorem Sl.row {w : World} {a : Option Addr} {n : Nat} {xss : List (List Int)} (h : Sl (R.slice R.int) w a n xss) {k : Nat} (hk : k < n) :
    ∃ b off r m c xs, a = some ⟨b, off, none⟩ ∧ w.cell? ⟨b, off + k, none⟩ = some (.slice r m c) ∧ Hid (xss[k]? = some xs) ∧ Ints w r m xs ∧ m ≤ c ∧ c ≤ 9223372036854775807 := by
  obtain ⟨b, off, v, xs, ha, hc, hx, r, m, c, hv, h1, h2, hs⟩ := h.get rfl hk
  simp at hv
  subst hv
  exact ⟨b, off, r, m, c, xs, ha, hc, hx, hs.ints, h1, h2⟩

/-! Owned shapes -/

/-- The block of a slice value, as a list. -/
def bl (v : Value) : List Nat := v.ownBlock.toList

def O.int : OS Int := ⟨1, fun _ cs x fp => cs = [.int .i64 x] ∧ I64 x ∧ fp = [], fun h => by rw [h.1]; rfl, fun h _ => h, fun h k hk => by rw [h.2.2] at hk; cases hk⟩
def O.str : OS ByteArray := ⟨1, fun _ cs s fp => cs = [.string s] ∧ s.size ≤ 9223372036854775807 ∧ fp = [], fun h => by rw [h.1]; rfl, fun h _ => h, fun h k hk => by rw [h.2.2] at hk; cases hk⟩
def O.bool : OS Bool := ⟨1, fun _ cs b fp => cs = [.bool b] ∧ fp = [], fun h => by rw [h.1]; rfl, fun h _ => h, fun h k hk => by rw [h.2] at hk; cases hk⟩
def O.pair {α β : Type} (a : OS α) (b : OS β) : OS (α × β) :=
  ⟨a.size + b.size, fun w cs x fp => ∃ c1 c2 f1 f2, cs = c1 ++ c2 ∧ fp = f1 ++ f2 ∧ a.rep w c1 x.1 f1 ∧ b.rep w c2 x.2 f2,
    fun ⟨c1, c2, f1, f2, h, _, h1, h2⟩ => by rw [h, List.length_append, a.len h1, b.len h2],
    fun ⟨c1, c2, f1, f2, h, hf, h1, h2⟩ hk => ⟨c1, c2, f1, f2, h, hf, a.frame h1 (fun k h => hk k (by rw [hf]; exact List.mem_append_left _ h)), b.frame h2 (fun k h => hk k (by rw [hf]; exact List.mem_append_right _ h))⟩,
    fun ⟨c1, c2, f1, f2, h, hf, h1, h2⟩ k hk => by
      rw [hf] at hk
      rcases List.mem_append.1 hk with hk | hk
      · exact a.lt h1 k hk
      · exact b.lt h2 k hk⟩

/-- Element by element. -/
def OS.rows {α : Type} (o : OS α) (w : World) : List (List Value) → List α → List (List Nat) → Prop
  | [], [], [] => True
  | c :: cs, x :: xs, f :: fs => o.rep w c x f ∧ o.rows w cs xs fs
  | _, _, _ => False
theorem OS.rows_frame {α : Type} (o : OS α) {w w' : World} : ∀ {css : List (List Value)} {xs : List α} {fps : List (List Nat)}, o.rows w css xs fps → (∀ k ∈ fps.flatten, w'.heap[k]? = w.heap[k]?) → o.rows w' css xs fps
  | [], [], [], _, _ => trivial
  | c :: cs, x :: xs, f :: fs, h, hk => ⟨o.frame h.1 (fun k hf => hk k (by simp [hf])), o.rows_frame h.2 (fun k hf => hk k (by simp only [List.flatten_cons, List.mem_append]; exact .inr hf))⟩
theorem OS.rows_lt {α : Type} (o : OS α) {w : World} : ∀ {css : List (List Value)} {xs : List α} {fps : List (List Nat)}, o.rows w css xs fps → ∀ k ∈ fps.flatten, k < w.heap.size
  | [], [], [], _, k, hk => by simp at hk
  | c :: cs, x :: xs, f :: fs, h, k, hk => by
    simp only [List.flatten_cons, List.mem_append] at hk
    rcases hk with hk | hk
    · exact o.lt h.1 k hk
    · exact o.rows_lt h.2 k hk
theorem OS.rows_len {α : Type} (o : OS α) {w : World} : ∀ {css : List (List Value)} {xs : List α} {fps : List (List Nat)}, o.rows w css xs fps → css.length = xs.length ∧ fps.length = xs.length ∧ css.flatten.length = xs.length * o.size
  | [], [], [], _ => by simp
  | c :: cs, x :: xs, f :: fs, h => by
    obtain ⟨h1, h2, h3⟩ := o.rows_len h.2
    have := o.len h.1
    simp [h1, h2, h3, this, Nat.add_mul]
    omega
theorem OS.rows_snoc {α : Type} (o : OS α) {w : World} {c : List Value} {x : α} {f : List Nat} (hx : o.rep w c x f) : ∀ {css : List (List Value)} {xs : List α} {fps : List (List Nat)}, o.rows w css xs fps → o.rows w (css ++ [c]) (xs ++ [x]) (fps ++ [f])
  | [], [], [], _ => ⟨hx, trivial⟩
  | _ :: _, _ :: _, _ :: _, h => ⟨h.1, o.rows_snoc hx h.2⟩
theorem OS.rows_get {α : Type} (o : OS α) {w : World} : ∀ {css : List (List Value)} {xs : List α} {fps : List (List Nat)} (h : o.rows w css xs fps) (i : Nat) (x : α), xs[i]? = some x → ∃ c f, css[i]? = some c ∧ fps[i]? = some f ∧ o.rep w c x f
  | [], [], [], _, i, y, hy => by simp at hy
  | c :: cs, x :: xs, f :: fs, h, 0, y, hy => by simp at hy; subst hy; exact ⟨c, f, rfl, rfl, h.1⟩
  | c :: cs, x :: xs, f :: fs, h, i + 1, y, hy => by simpa using o.rows_get h.2 i y (by simpa using hy)
theorem OS.rows_set {α : Type} (o : OS α) {w : World} : ∀ {css : List (List Value)} {xs : List α} {fps : List (List Nat)} (h : o.rows w css xs fps) (i : Nat) (c : List Value) (x : α) (f : List Nat), css[i]? = some c → fps[i]? = some f → o.rep w c x f → o.rows w css (xs.set i x) fps
  | [], [], [], _, i, _, x, _, h1, _, _ => by simp at h1
  | c :: cs, y :: xs, f :: fs, h, 0, _, x, _, h1, h2, hr => by simp at h1 h2; subst h1 h2; exact ⟨hr, h.2⟩
  | c :: cs, y :: xs, f :: fs, h, i + 1, _, x, _, h1, h2, hr => ⟨h.1, o.rows_set h.2 i _ x _ (by simpa using h1) (by simpa using h2) hr⟩

theorem own_frame {w w' : World} {B e size : Nat} {v : Value} {n : Nat} {us : List Value} (h : w.ownsRow B e size v n us) (hk : ∀ k ∈ bl v, w'.heap[k]? = w.heap[k]?) : w'.ownsRow B e size v n us := by
  refine ⟨h.1, ?_⟩
  rcases h.2 with h2 | ⟨g, cap, cur, rfl, hB, hg, r⟩
  · exact .inl h2
  · exact .inr ⟨g, cap, cur, rfl, hB, by rw [hk g (by simp [bl, Value.ownBlock])]; exact hg, r⟩

def O.slice {α : Type} (t : TypeId) (o : OS α) : OS (List α) :=
  ⟨1, fun w cs xs fp => ∃ v css fps, cs = [v] ∧ fp = bl v ++ fps.flatten ∧ w.ownsRow 0 t o.size v xs.length css.flatten ∧ o.rows w css xs fps,
    fun ⟨_, _, _, h, _⟩ => by rw [h]; rfl,
    fun ⟨v, css, fps, h, hf, h1, h2⟩ hk => ⟨v, css, fps, h, hf, own_frame h1 (fun k hb => hk k (by rw [hf]; exact List.mem_append_left _ hb)),
      o.rows_frame h2 (fun k hb => hk k (by rw [hf]; exact List.mem_append_right _ hb))⟩,
    fun ⟨v, css, fps, h, hf, h1, h2⟩ k hk => by
      rw [hf] at hk
      rcases List.mem_append.1 hk with hk | hk
      · exact (h1.lt k (by simpa [bl] using hk)).2
      · exact o.rows_lt h2 k hk⟩

/-- What is owned, between two numbers of blocks, no block twice. -/
def Own {α : Type} (o : OS α) (lo hi : Nat) (w : World) (cs : List Value) (x : α) : Prop := ∃ fp, o.rep w cs x fp ∧ fp.Nodup ∧ ∀ k ∈ fp, lo ≤ k ∧ k < hi

theorem Own.below {α : Type} {o : OS α} {lo hi C : Nat} {w w' : World} {cs : List Value} {x : α} (h : Own o lo hi w cs x) (hb : Below C w w') (hC : hi ≤ C) : Own o lo hi w' cs x := by
  obtain ⟨fp, h1, h2, h3⟩ := h
  exact ⟨fp, o.frame h1 (fun k hk => hb.block k (by have := h3 k hk; omega)), h2, h3⟩
theorem Own.kept {α : Type} {o : OS α} {lo hi lo' hi' : Nat} {w w' : World} {cs : List Value} {x : α} (h : Own o lo hi w cs x) (hk : Kept lo' hi' w w') (hd : hi ≤ lo' ∨ hi' ≤ lo) : Own o lo hi w' cs x := by
  obtain ⟨fp, h1, h2, h3⟩ := h
  exact ⟨fp, o.frame h1 (fun k hk' => hk.block k (by have := h3 k hk'; omega)), h2, h3⟩
theorem Own.mono {α : Type} {o : OS α} {lo hi lo' hi' : Nat} {w : World} {cs : List Value} {x : α} (h : Own o lo hi w cs x) (h1 : lo' ≤ lo) (h2 : hi ≤ hi') : Own o lo' hi' w cs x := by
  obtain ⟨fp, a, b, c⟩ := h
  exact ⟨fp, a, b, fun k hk => by have := c k hk; omega⟩

/-- What is owned reads. -/
def Reads {α : Type} (o : OS α) (r : RS α) : Prop := o.size = r.size ∧ ∀ {w cs x fp}, o.rep w cs x fp → r.rep w cs x
theorem Reads.int : Reads O.int R.int := ⟨rfl, fun h => ⟨h.1, h.2.1⟩⟩
theorem Reads.str : Reads O.str R.str := ⟨rfl, fun h => ⟨h.1, h.2.1⟩⟩
theorem Reads.bool : Reads O.bool R.bool := ⟨rfl, fun h => h.1⟩
theorem Reads.pair {α β : Type} {a : OS α} {b : OS β} {c : RS α} {d : RS β} (h : Reads a c) (k : Reads b d) : Reads (O.pair a b) (R.pair c d) :=
  ⟨by show a.size + b.size = c.size + d.size; rw [h.1, k.1], fun ⟨c1, c2, _, _, h1, _, h2, h3⟩ => ⟨c1, c2, h1, h.2 h2, k.2 h3⟩⟩
theorem flatten_get {α : Type} (o : OS α) {w : World} : ∀ {css : List (List Value)} {xs : List α} {fps : List (List Nat)} (h : o.rows w css xs fps) (i j : Nat) (c : List Value) (u : Value), css[i]? = some c → c[j]? = some u → css.flatten[i * o.size + j]? = some u
  | [], [], [], _, i, j, c, u, hc, hu => by simp at hc
  | c :: cs, x :: xs, f :: fs, h, 0, j, _, u, hc, hu => by
    simp at hc
    subst hc
    simp only [List.flatten_cons, Nat.zero_mul, Nat.zero_add]
    rw [List.getElem?_append_left (List.getElem?_eq_some_iff.1 hu).1]
    exact hu
  | c :: cs, x :: xs, f :: fs, h, i + 1, j, _, u, hc, hu => by
    have hl := o.len h.1
    simp only [List.flatten_cons]
    rw [List.getElem?_append_right (by rw [hl, Nat.add_mul]; omega), hl, show (i + 1) * o.size + j - o.size = i * o.size + j by rw [Nat.add_mul]; omega]
    exact flatten_get o h.2 i j _ u (by simpa using hc) hu
theorem own_cell {w : World} {B e size : Nat} {a : Option Addr} {cap n : Nat} {us : List Value} (h : w.ownsRow B e size (.slice a n cap) n us) (i : Nat) (u : Value) (hu : us[i]? = some u) :
    ∃ g, a = some ⟨g, 0, none⟩ ∧ w.cell? ⟨g, i, none⟩ = some u := by
  have hi : i < n * size := by rw [← h.1]; exact (List.getElem?_eq_some_iff.1 hu).1
  have h' := h
  rcases h'.2 with ⟨hv, rfl⟩ | ⟨g, c, cur, hv, hB, hg, hn, hc, _⟩
  · simp at hi
  · simp at hv
    obtain ⟨rfl, rfl⟩ := hv
    exact ⟨g, rfl, by rw [h.cellAt i hi]; exact hu⟩
theorem own_cap {w : World} {B e size : Nat} {a : Option Addr} {cap n : Nat} {us : List Value} (h : w.ownsRow B e size (.slice a n cap) n us) : n ≤ cap ∧ cap ≤ 9223372036854775807 := by
  rcases h.2 with ⟨hv, rfl⟩ | ⟨g, c, cur, hv, hB, hg, hn, hc, _⟩
  · simp at hv; omega
  · simp at hv
    obtain ⟨rfl, rfl⟩ := hv
    exact ⟨hn, by unfold maxLen at hc; omega⟩
theorem Reads.slice {α : Type} {o : OS α} {r : RS α} (t : TypeId) (h : Reads o r) : Reads (O.slice t o) (R.slice r) := by
  refine ⟨rfl, ?_⟩
  rintro w cs xs fp ⟨v, css, fps, rfl, rfl, h1, h2⟩
  obtain ⟨a, cap, rfl, hn, _⟩ := own_form h1
  refine ⟨a, xs.length, cap, rfl, (own_cap h1).1, (own_cap h1).2, rfl, hn, fun i x hx => ?_⟩
  obtain ⟨c, f, hc, hf, hr⟩ := o.rows_get h2 i x hx
  have hlen := o.len hr
  have key : ∀ j u, c[j]? = some u → ∃ g, a = some ⟨g, 0, none⟩ ∧ w.cell? ⟨g, i * r.size + j, none⟩ = some u := fun j u hu => by
    rw [← h.1]
    exact own_cell h1 _ _ (flatten_get o h2 i j c u hc hu)
  obtain ⟨g, ha⟩ : ∃ g, a = some ⟨g, 0, none⟩ := by
    rcases h1.2 with ⟨hv, h0⟩ | ⟨g, c, cur, hv, _⟩
    · have := (List.getElem?_eq_some_iff.1 hx).1; omega
    · simp at hv; exact ⟨g, hv.1⟩
  refine ⟨g, 0, c, ha, h.2 hr, fun j u hu => ?_⟩
  obtain ⟨g', ha', hc'⟩ := key j u hu
  rw [ha] at ha'
  simp at ha'
  subst ha'
  simpa using hc'

end Go.Proofs.Ytehcjdbljdpmbaa

/- Appending an owned element to an owned slice; the two arms of append in one law. -/
namespace Go.Proofs.Ytehcjdbljdpmbaa
open Go.RowKit
set_option linter.unusedVariables false
set_option linter.unusedSimpArgs false

theorem add_zero_addr (g j : Nat) : (⟨g, 0, none⟩ : Addr).add j = ⟨g, j, none⟩ := by
  unfold Addr.add; split
  · rename_i h; subst h; rfl
  · simp

/-- What lies in a fresh block, cell by cell. -/
theorem fresh_cells (W : World) (c : List Value) (E : TypeId) : ∀ j u, c[j]? = some u → (W.alloc (.cells c.toArray E)).cell? ((⟨W.heap.size, 0, none⟩ : Addr).add j) = some u := by
  intro j u hu
  rw [add_zero_addr]
  have h : (W.alloc (.cells c.toArray E)).heap[W.heap.size]? = some (.cells c.toArray E) := heap_alloc_new W _
  simp only [World.cell?, h]
  simpa using hu

theorem wpList_appS {α : Type} {T E size bytes : Nat} {z : Value} (hT : Try.prog.underlying T = some (.slice E)) (hE : (Try.prog.info? E).map (fun i => (i.zero, i.size, i.bytes)) = some (some z, size, bytes)) (hz : z.cells.size = size) (hpos : 0 < size) (hby : bytes ≤ 1000)
    {o' : OS α} (hsz : o'.size = size) {B h1 h2 : Nat} {w0 W : World} {ops : Array Oper} {rest : List Oper} {o : Oper} {a : Act} {Q : Exit → Act → World → Prop}
    (s x : Operand) (v : Value) (xs : List α) (c : List Value) (y : α)
    (hown : Own (O.slice E o') B h1 W [v] xs) (hy : Own o' h1 h2 W c y) (hone : ∀ u ∈ c, u.oneCell' = true) (hB : B ≤ h1) (hh : h1 ≤ h2) (hW : h2 ≤ W.heap.size) (hb : Below B w0 W) (hn : xs.length ≤ 100000000)
    (hgd : o.guard = none) (ho : o.op = .call { callee := .builtin .append, args := #[s, x], argTypes := #[T, T] })
    (hs : a.eval s = v) (hx : a.eval x = .slice (some ⟨W.heap.size, 0, none⟩) 1 1)
    (h : ∀ v' w', Own (O.slice E o') B w'.heap.size w' [v'] (xs ++ [y]) → Below B w0 w' → B ≤ w'.heap.size → wpList Try.prog ops Q rest (a.put o.dst v') w') :
    wpList Try.prog ops Q (o :: rest) a (W.alloc (.cells c.toArray E)) := by
  obtain ⟨i, hi, hz0, hz1, hz2⟩ := info_parts hE
  obtain ⟨fp, ⟨v1, css, fps, hv, rfl, hrow, hrows⟩, hnd, hlim⟩ := hown
  obtain ⟨fy, hyr, hynd, hylim⟩ := hy
  simp at hv
  subst hv
  obtain ⟨av, cap, rfl, _⟩ := own_form hrow
  have hclen : c.length = size := by rw [← hsz]; exact o'.len hyr
  rw [hsz] at hrow
  have hnl := List.nodup_append.1 hnd
  have hnew : Below W.heap.size W (W.alloc (.cells c.toArray E)) := (Below.refl _ _).alloc (Nat.le_refl _) _
  have hrow1 := own_below hrow hnew (Nat.le_refl _)
  have hrlen := o'.rows_len hrows
  have hlt : ∀ k ∈ bl (.slice av xs.length cap) ++ fps.flatten, k < W.heap.size := fun k hk => by have := hlim k hk; omega
  have hby2 : (xs.length + 1) * bytes ≤ 140737488355328 := Nat.le_trans (Nat.mul_le_mul (show xs.length + 1 ≤ 100000001 by omega) hby) (by decide)
  have fin : ∀ (v' : Value) (w' : World) (C : Nat), w'.ownsRow 0 E size v' (xs.length + 1) (css.flatten ++ c) → (∀ k, k ∈ fps.flatten ++ fy → w'.heap[k]? = W.heap[k]?) → Below B w0 w' → W.heap.size < w'.heap.size →
      (∀ k ∈ bl v', (B ≤ k ∧ k < w'.heap.size) ∧ k ∉ fps.flatten ∧ k ∉ fy) → wpList Try.prog ops Q rest (a.put o.dst v') w' := by
    intro v' w' C h3 h4 h5 h6 h7
    refine h v' w' ⟨bl v' ++ (fps ++ [fy]).flatten, ⟨v', css ++ [c], fps ++ [fy], rfl, rfl, ?_, ?_⟩, ?_, ?_⟩ h5 (by omega)
    · rw [hsz]; simpa using h3
    · exact o'.rows_snoc (o'.frame hyr (fun k hk => h4 k (List.mem_append_right _ hk))) (o'.rows_frame hrows (fun k hk => h4 k (List.mem_append_left _ hk)))
    · rw [List.flatten_append, List.nodup_append]
      refine ⟨by unfold bl; cases v'.ownBlock <;> simp, ?_, ?_⟩
      · rw [List.nodup_append]
        refine ⟨hnl.2.1, by simpa using hynd, ?_⟩
        intro p hp q hq
        have := hlim p (List.mem_append_right _ hp)
        have := hylim q (by simpa using hq)
        omega
      · intro p hp q hq e
        subst e
        have h8 := h7 p hp
        rcases List.mem_append.1 hq with hq | hq
        · exact h8.2.1 hq
        · exact h8.2.2 (by simpa using hq)
    · intro k hk
      rcases List.mem_append.1 hk with hk | hk
      · exact (h7 k hk).1
      · simp only [List.flatten_append, List.mem_append] at hk
        rcases hk with hk | hk
        · have := hlim k (List.mem_append_right _ hk); omega
        · have := hylim k (by simpa using hk); omega
  by_cases hroom : xs.length + 1 ≤ cap
  · -- there is room: the same block
    rcases hrow1.2 with ⟨hv, _⟩ | ⟨g, cap', cur, hv, hB0, hg, hnc, hcm, hcs, htake⟩
    · simp at hv; omega
    · simp at hv
      obtain ⟨rfl, rfl⟩ := hv
      refine wpList_append_fits _ hgd s x T ho 0 E i size hT hi hz1 g xs.length cap css.flatten hs hrow1 ⟨W.heap.size, 0, none⟩ 1 1 c hx (by omega) (fresh_cells W c E) hone hroom ?_
      intro w' h3 h4
      have hgB := hlim g (by simp [bl, Value.ownBlock])
      refine fin _ w' 0 h3 (fun k hk => ?_) ?_ ?_ ?_
      · have hkl : k < W.heap.size := by
          rcases List.mem_append.1 hk with hk | hk
          · have := hlim k (List.mem_append_right _ hk); omega
          · have := hylim k hk; omega
        rw [h4.block k (by simp; omega) ?_, Below.heap_alloc W _ k hkl]
        intro e
        simp at e
        subst e
        rcases List.mem_append.1 hk with hk | hk
        · exact hnl.2.2 k (by simp [bl, Value.ownBlock]) k hk rfl
        · have := hylim k hk; omega
      · exact (hb.alloc (by omega) _).grown h4 (by simp; omega) (fun k hk => by simp at hk; omega)
      · have := h4.size; simp at this; omega
      · intro k hk
        simp [bl, Value.ownBlock] at hk
        subst hk
        refine ⟨⟨by omega, by have := h4.size; simp at this; omega⟩, fun hm => hnl.2.2 k (by simp [bl, Value.ownBlock]) k hm rfl, fun hm => ?_⟩
        have := hylim k hm; omega
  · refine wpList_append_grows _ hgd s x T ho E i z size bytes hT hi hz0 hz1 hz2 hz hpos av xs.length cap css.flatten hs ?_ hrow1.1 ?_ ⟨W.heap.size, 0, none⟩ 1 1 c hx (by omega) (fresh_cells W c E) hone (by omega) (by unfold maxLen; omega) hby2 ?_
    · intro e
      subst e
      rcases hrow1.2 with ⟨hv, h0⟩ | ⟨g, cap', cur, hv, _⟩
      · simp at hv; exact ⟨h0, hv.2⟩
      · simp at hv
    · intro b hbv j u hu
      obtain ⟨g, hg, hcell⟩ := own_cell hrow1 j u hu
      rw [hbv] at hg
      simp at hg
      subst hg
      rw [add_zero_addr]
      exact hcell
    · intro v' w' h3 h4
      refine fin v' w' 0 (own_base h3 (Nat.zero_le _)) (fun k hk => ?_) ?_ ?_ ?_
      · have hkl : k < W.heap.size := by
          rcases List.mem_append.1 hk with hk | hk
          · have := hlim k (List.mem_append_right _ hk); omega
          · have := hylim k hk; omega
        rw [h4.block k (by simp; omega) (by simp), Below.heap_alloc W _ k hkl]
      · exact (hb.alloc (by omega) _).grown h4 (by simp; omega) (fun k hk => by simp at hk)
      · have := h4.size; simp at this; omega
      · intro k hk
        have h5 := h3.lt k (by simpa [bl] using hk)
        simp at h5
        refine ⟨⟨by omega, by omega⟩, fun hm => ?_, fun hm => ?_⟩
        · have := hlim k (List.mem_append_right _ hm); omega
        · have := hylim k hm; omega

/-- An empty slice literal. -/
theorem own_empty_S {α : Type} {E : TypeId} {o : OS α} {B : Nat} {W : World} (hB : B ≤ W.heap.size) : Own (O.slice E o) B (W.heap.size + 1) (W.alloc (.cells #[] E)) [.slice (some ⟨W.heap.size, 0, none⟩) 0 0] [] := by
  refine ⟨[W.heap.size], ⟨_, [], [], rfl, by simp [bl, Value.ownBlock], ?_, trivial⟩, by simp, ?_⟩
  · exact World.ownsRow_made W #[] 0 (Nat.zero_le _) (by unfold maxLen; omega) (by simp)
  · intro k hk; simp at hk; omega
theorem own_nil_S {α : Type} {E : TypeId} {o : OS α} {B : Nat} {W : World} : Own (O.slice E o) B B W [.slice none 0 0] [] :=
  ⟨[], ⟨_, [], [], rfl, by simp [bl, Value.ownBlock], World.ownsRow_nil _ _ _ _, trivial⟩, by simp, by intro k hk; cases hk⟩

end Go.Proofs.Ytehcjdbljdpmbaa

/- Contracts: the laws' own helpers on slices of slices of ints. -/
namespace Go.Proofs.Ytehcjdbljdpmbaa
open Go.RowKit
set_option linter.unusedVariables false
set_option linter.unusedSimpArgs false

/-- Only these blocks may have turned; none has come. -/
structure Only (fp : List Nat) (w w' : World) : Prop where
  os : w'.os = w.os
  tape : w'.tape = w.tape
  output : w'.output = w.output
  size : w'.heap.size = w.heap.size
  block : ∀ k, k ∉ fp → w'.heap[k]? = w.heap[k]?
theorem Only.refl (fp : List Nat) (w : World) : Only fp w w := ⟨rfl, rfl, rfl, rfl, fun _ _ => rfl⟩
theorem Only.trans {fp : List Nat} {a b c : World} (h : Only fp a b) (k : Only fp b c) : Only fp a c :=
  ⟨k.os.trans h.os, k.tape.trans h.tape, k.output.trans h.output, k.size.trans h.size, fun i hi => (k.block i hi).trans (h.block i hi)⟩
theorem Only.mono {fp fq : List Nat} {w w' : World} (h : Only fp w w') (hs : ∀ k ∈ fp, k ∈ fq) : Only fq w w' :=
  ⟨h.os, h.tape, h.output, h.size, fun k hk => h.block k (fun hx => hk (hs k hx))⟩
theorem Only.kept {fp : List Nat} {lo hi : Nat} {w w' : World} (h : Only fp w w') (hk : ∀ k ∈ fp, lo ≤ k ∧ k < hi) : Kept lo hi w w' :=
  ⟨h.os, h.tape, h.output, h.size, fun k hx => h.block k (fun hm => by have := hk k hm; omega)⟩
theorem Only.drew {fp : List Nat} {w w' w'' : World} (h : Only fp w w') (hd : Drew w' w'') : Only fp w w'' := by
  obtain ⟨m, rfl⟩ := hd
  exact ⟨h.os, h.tape, h.output, h.size, h.block⟩

/-- Of what was there at most blocks from lo up to hi have turned; others may have come. -/
structure Turn (lo hi : Nat) (w w' : World) : Prop where
  os : w'.os = w.os
  tape : w'.tape = w.tape
  output : w'.output = w.output
  size : w.heap.size ≤ w'.heap.size
  block : ∀ k, k < w.heap.size → (k < lo ∨ hi ≤ k) → w'.heap[k]? = w.heap[k]?
theorem Kept.turn {lo hi : Nat} {w w' : World} (h : Kept lo hi w w') : Turn lo hi w w' := ⟨h.os, h.tape, h.output, by rw [h.size]; exact Nat.le_refl _, fun k _ hk => h.block k hk⟩
theorem turn_refl (lo hi : Nat) (w : World) : Turn lo hi w w := (Kept.refl lo hi w).turn
theorem Turn.trans {lo hi : Nat} {a b c : World} (h : Turn lo hi a b) (k : Turn lo hi b c) : Turn lo hi a c :=
  ⟨k.os.trans h.os, k.tape.trans h.tape, k.output.trans h.output, Nat.le_trans h.size k.size, fun i hi hk => (k.block i (Nat.lt_of_lt_of_le hi h.size) hk).trans (h.block i hi hk)⟩
theorem turn_below {lo hi C : Nat} {w w' : World} (h : Below C w w') (hC : w.heap.size ≤ C) : Turn lo hi w w' := ⟨h.os, h.tape, h.output, h.size, fun k hk _ => h.block k (by omega)⟩
theorem Turn.mono {lo hi lo' hi' : Nat} {w w' : World} (h : Turn lo hi w w') (h1 : lo' ≤ lo) (h2 : hi ≤ hi') : Turn lo' hi' w w' := ⟨h.os, h.tape, h.output, h.size, fun k hk hx => h.block k hk (by omega)⟩
theorem Turn.below {lo hi : Nat} {w w' : World} (h : Turn lo hi w w') (hl : lo ≤ w.heap.size) : Below lo w w' := ⟨h.os, h.tape, h.output, h.size, fun k hk => h.block k (by omega) (.inl hk)⟩
theorem Turn.cell {lo hi : Nat} {w w' : World} (h : Turn lo hi w w') {p : Addr} (h1 : p.block < w.heap.size) (h2 : p.block < lo ∨ hi ≤ p.block) : w'.cell? p = w.cell? p := World.cell?_of_block (h.block _ h1 h2)
theorem Own.turn {α : Type} {o : OS α} {lo hi lo' hi' : Nat} {w w' : World} {cs : List Value} {x : α} (h : Own o lo hi w cs x) (hk : Turn lo' hi' w w') (hd : hi ≤ lo' ∨ hi' ≤ lo) : Own o lo hi w' cs x := by
  obtain ⟨fp, h1, h2, h3⟩ := h
  exact ⟨fp, o.frame h1 (fun k hk' => hk.block k (o.lt h1 k hk') (by have := h3 k hk'; omega)), h2, h3⟩

/-- A slice of ints of one's own, as a shape. -/
def oI : OS (List Int) := O.slice 3 O.int
def oII : OS (List (List Int)) := O.slice 24 oI
def rI : RS (List Int) := R.slice R.int
def rII : RS (List (List Int)) := R.slice rI
theorem reads_I : Reads oI rI := Reads.slice _ Reads.int
theorem reads_II : Reads oII rII := Reads.slice _ reads_I

theorem rows_ints {w : World} : ∀ {css : List (List Value)} {xs : List Int} {fps : List (List Nat)}, O.int.rows w css xs fps → css.flatten = xs.map (Value.int .i64) ∧ AllI64 xs ∧ fps.flatten = []
  | [], [], [], _ => ⟨rfl, (by intro x hx; cases hx), rfl⟩
  | c :: cs, x :: xs, f :: fs, h => by
    obtain ⟨⟨rfl, hx, rfl⟩, h2⟩ := h
    obtain ⟨h3, h4, h5⟩ := rows_ints h2
    refine ⟨by simp [h3], ?_, by simp [h5]⟩
    intro y hy
    rcases List.mem_cons.1 hy with rfl | hy
    · exact hx
    · exact h4 y hy
theorem ints_rows {w : World} : ∀ {xs : List Int}, AllI64 xs → O.int.rows w (xs.map fun x => [Value.int .i64 x]) xs (xs.map fun _ => [])
  | [], _ => trivial
  | x :: xs, h => ⟨⟨rfl, h x (List.mem_cons_self ..), rfl⟩, ints_rows (fun y hy => h y (List.mem_cons_of_mem _ hy))⟩
theorem map_flatten_one (xs : List Int) : (xs.map fun x => [Value.int .i64 x]).flatten = xs.map (Value.int .i64) := by
  induction xs with
  | nil => rfl
  | cons x xs ih => simp [ih]
theorem map_flatten_nil (xs : List Int) : (xs.map fun _ => ([] : List Nat)).flatten = [] := by
  induction xs with
  | nil => rfl
  | cons x xs ih => simp
theorem oI_own {w : World} {cs : List Value} {xs : List Int} {fp : List Nat} (h : oI.rep w cs xs fp) : ∃ a cap, cs = [.slice a xs.length cap] ∧ OwnInts 0 w (.slice a xs.length cap) xs.length xs ∧ fp = bl (.slice a xs.length cap) := by
  obtain ⟨v, css, fps, rfl, rfl, h1, h2⟩ := h
  obtain ⟨h3, h4, h5⟩ := rows_ints h2
  obtain ⟨a, cap, rfl, _⟩ := own_form h1
  refine ⟨a, cap, rfl, ⟨rfl, ?_, h4⟩, by rw [h5, List.append_nil]⟩
  rw [← h3]; exact h1
theorem own_oI {B n : Nat} {w : World} {v : Value} {xs : List Int} (h : OwnInts B w v n xs) : oI.rep w [v] xs (bl v) := by
  have hl := h.len
  subst hl
  refine ⟨v, _, _, rfl, ?_, ?_, ints_rows h.rng⟩
  · rw [map_flatten_nil, List.append_nil]
  · rw [map_flatten_one]; exact own_base h.row (Nat.zero_le _)
/-- What a call makes, as a shape between two heaps' sizes. -/
theorem OwnInts.own {B n : Nat} {w : World} {v : Value} {xs : List Int} (h : OwnInts B w v n xs) : Own oI B w.heap.size w [v] xs := by
  refine ⟨bl v, own_oI h, ?_, fun k hk => ?_⟩
  · unfold bl; cases v.ownBlock <;> simp
  · exact h.row.lt k (by simpa [bl] using hk)

/-- One row of an owned slice turned: the whole. -/
theorem rows_turn {α : Type} (o : OS α) {w w' : World} : ∀ {css : List (List Value)} {xs : List α} {fps : List (List Nat)} (h : o.rows w css xs fps) (i : Nat) (c : List Value) (x' : α) (f : List Nat),
    css[i]? = some c → fps[i]? = some f → fps.flatten.Nodup → o.rep w' c x' f → (∀ k, k ∉ f → w'.heap[k]? = w.heap[k]?) → o.rows w' css (xs.set i x') fps
  | [], [], [], _, i, _, x, _, h1, _, _, _, _ => by simp at h1
  | c :: cs, y :: xs, f :: fs, h, 0, _, x, _, h1, h2, hn, hr, hk => by
    simp at h1 h2
    subst h1 h2
    refine ⟨hr, o.rows_frame h.2 (fun k hm => hk k (fun hf => ?_))⟩
    simp only [List.flatten_cons] at hn
    exact (List.nodup_append.1 hn).2.2 k hf k hm rfl
  | c :: cs, y :: xs, f :: fs, h, i + 1, c', x, f', h1, h2, hn, hr, hk => by
    simp only [List.getElem?_cons_succ] at h1 h2
    simp only [List.flatten_cons] at hn
    have hn' := List.nodup_append.1 hn
    refine ⟨o.frame h.1 (fun k hm => hk k (fun hf => ?_)), rows_turn o h.2 i c' x f' h1 h2 hn'.2.1 hr hk⟩
    exact hn'.2.2 k hm k (List.mem_flatten.2 ⟨f', List.mem_of_getElem? h2, hf⟩) rfl

/-- One element of an owned slice: its cells, its blocks; and what follows if it alone is turned. -/
theorem slice_elem {α : Type} {t : TypeId} {o : OS α} {w : World} {a : Option Addr} {n cap : Nat} {xs : List α} {fp : List Nat} (h : (O.slice t o).rep w [.slice a n cap] xs fp) (hn : fp.Nodup) {i : Nat} {x : α} (hx : xs[i]? = some x) :
    ∃ g c f, a = some ⟨g, 0, none⟩ ∧ o.rep w c x f ∧ f.Nodup ∧ (∀ k ∈ f, k ∈ fp) ∧ (∀ j u, c[j]? = some u → w.cell? ⟨g, i * o.size + j, none⟩ = some u) ∧
      ∀ w' x', o.rep w' c x' f → Only f w w' → (O.slice t o).rep w' [.slice a n cap] (xs.set i x') fp := by
  obtain ⟨v, css, fps, hv, rfl, h1, h2⟩ := h
  simp at hv
  subst hv
  obtain ⟨c, f, hc, hf, hr⟩ := o.rows_get h2 i x hx
  obtain ⟨g, ha⟩ : ∃ g, a = some ⟨g, 0, none⟩ := by
    rcases h1.2 with ⟨hv, h0⟩ | ⟨g, c, cur, hv, _⟩
    · have := (List.getElem?_eq_some_iff.1 hx).1; omega
    · simp at hv; exact ⟨g, hv.1⟩
  have hnl := List.nodup_append.1 hn
  have hmem : ∀ k ∈ f, k ∈ fps.flatten := fun k hk => List.mem_flatten.2 ⟨f, List.mem_of_getElem? hf, hk⟩
  have hsub : f.Sublist fps.flatten := List.sublist_flatten_of_mem (List.mem_of_getElem? hf)
  refine ⟨g, c, f, ha, hr, hsub.nodup hnl.2.1, fun k hk => List.mem_append_right _ (hmem k hk), fun j u hu => ?_, ?_⟩
  · have hlen : n = xs.length := by
      obtain ⟨a', cap', hv, _⟩ := own_form h1
      simp at hv
      exact hv.2.1
    subst hlen
    obtain ⟨g', ha', hc'⟩ := own_cell h1 _ _ (flatten_get o h2 i j c u hc hu)
    rw [ha] at ha'
    simp at ha'
    subst ha'
    exact hc'
  · intro w' x' hr' hk
    refine ⟨_, css, fps, rfl, rfl, ?_, rows_turn o h2 i c x' f hc hf hnl.2.1 hr' hk.block⟩
    rw [List.length_set]
    exact own_frame h1 (fun k hb => hk.block k (fun hm => hnl.2.2 k hb k (hmem k hm) rfl))

theorem take_snoc' {α : Type} (xs : List α) (k : Nat) (x : α) (h : xs[k]? = some x) : xs.take (k + 1) = xs.take k ++ [x] := by
  rw [List.take_add_one, h]; rfl

/-- How many ints lie in rows. -/
def cntSS (xss : List (List Int)) : Nat := (xss.map List.length).sum
/-- Rows with marks in the place of their ints. -/
def mkSS : Int → List (List Int) → List (List Int)
  | _, [] => []
  | k, r :: t => marks k r.length :: mkSS (k + r.length) t
theorem mkSS_len : ∀ (k : Int) (xss : List (List Int)), (mkSS k xss).length = xss.length
  | _, [] => rfl
  | k, r :: t => by simp [mkSS, mkSS_len]
theorem mkSS_cnt : ∀ (k : Int) (xss : List (List Int)), cntSS (mkSS k xss) = cntSS xss
  | _, [] => rfl
  | k, r :: t => by have := mkSS_cnt (k + r.length) t; simp only [cntSS] at this; simp [cntSS, mkSS, marks_length, this]
theorem mkSS_get : ∀ (k : Int) (xss : List (List Int)) (j : Nat) (r : List Int), xss[j]? = some r → (mkSS k xss)[j]? = some (marks (k + cntSS (xss.take j)) r.length)
  | k, [], j, r, h => by simp at h
  | k, x :: t, 0, r, h => by simp at h; subst h; simp [mkSS, cntSS]
  | k, x :: t, j + 1, r, h => by
    have := mkSS_get (k + x.length) t j r (by simpa using h)
    simp only [mkSS, List.getElem?_cons_succ, this, List.take_succ_cons]
    congr 2
    simp [cntSS]; omega
theorem cntSS_snoc (xss : List (List Int)) (j : Nat) (r : List Int) (h : xss[j]? = some r) : cntSS (xss.take (j + 1)) = cntSS (xss.take j) + r.length := by
  rw [take_snoc' _ _ _ h]; simp [cntSS]
theorem cntSS_take_le (xss : List (List Int)) (j : Nat) : cntSS (xss.take j) ≤ cntSS xss := by
  have e : cntSS xss = cntSS (xss.take j) + cntSS (xss.drop j) := by
    have e2 : cntSS (xss.take j ++ xss.drop j) = cntSS (xss.take j) + cntSS (xss.drop j) := by simp only [cntSS, List.map_append, List.sum_append]
    rwa [List.take_append_drop] at e2
  omega
/-- The first j rows are marked. -/
def mkTo (k : Int) (xss : List (List Int)) (j : Nat) : List (List Int) := (mkSS k xss).take j ++ xss.drop j
theorem mkTo_get (k : Int) (xss : List (List Int)) (j : Nat) (r : List Int) (h : xss[j]? = some r) : (mkTo k xss j)[j]? = some r := by
  have hj := (List.getElem?_eq_some_iff.1 h).1
  unfold mkTo
  rw [List.getElem?_append_right (by simp [mkSS_len]; omega), List.getElem?_drop]
  simp only [List.length_take, mkSS_len]
  rw [show min j xss.length = j by omega, show j + (j - j) = j by omega]
  exact h
theorem mkTo_step (k : Int) (xss : List (List Int)) (j : Nat) (r : List Int) (h : xss[j]? = some r) : (mkTo k xss j).set j (marks (k + cntSS (xss.take j)) r.length) = mkTo k xss (j + 1) := by
  have hj := (List.getElem?_eq_some_iff.1 h).1
  unfold mkTo
  rw [take_snoc' _ _ _ (mkSS_get k xss j r h), List.set_append_right _ _ (by simp [mkSS_len]; omega)]
  have e : xss.drop j = r :: xss.drop (j + 1) := by
    rw [List.drop_eq_getElem_cons hj]; congr 1; exact (List.getElem?_eq_some_iff.1 h).2
  rw [e]
  simp only [List.length_take, mkSS_len]
  rw [show j - min j xss.length = 0 by omega]
  simp
theorem mkTo_all (k : Int) (xss : List (List Int)) : mkTo k xss xss.length = mkSS k xss := by
  unfold mkTo
  rw [List.take_of_length_le (by rw [mkSS_len]; exact Nat.le_refl _)]
  simp

end Go.Proofs.Ytehcjdbljdpmbaa

/- Contracts: the atoms of a mask; the sequence of greatest norm. -/
namespace Go.Proofs.Ytehcjdbljdpmbaa
open Go.RowKit
set_option linter.unusedVariables false
set_option linter.unusedSimpArgs false

/-- The atoms of a mask. -/
def maskAtoms (k : Int) : List Int := if betw k 0 15 then bitsTo k.toNat 4 else []

set_option maxHeartbeats 400000 in
theorem maskAtoms_impl (k : Int) (w : World) (hk : I64 k) :
    Calls Try.prog 38 #[.int .i64 k] w fun e w' => ∃ b n c, e = .returned (.slice b n c) ∧ OwnInts w.heap.size w' (.slice b n c) n (maskAtoms k) ∧ Below w.heap.size w w' := by
  by_cases hb : betw k 0 15 = true
  · have h1 := hb
    simp only [betw, Bool.and_eq_true, decide_eq_true_eq] at h1
    obtain ⟨K, rfl⟩ := Int.eq_ofNat_of_zero_le (show 0 ≤ k by omega)
    have hK : K ≤ 15 := by omega
    have HT := Lib.hid (show maskAtoms K = bitsTo K 4 by simp [maskAtoms, hb])
    clear h1
    go_enter Try.func38, Try.ntmps38
    go_wp2_with (first | (go_at_call 51; refine (within_any _ _ _ _).mono ?_; rintro e w' ⟨rfl, rfl⟩))
    go_loopw [3, 4] (fun v i wr => ∃ (j : Nat), j ≤ 4 ∧ i = .int .i64 j ∧ ∃ n, OwnInts w.heap.size wr v n (bitsTo K j) ∧ Below w.heap.size w wr) (fun _ i _ => 4 - (intOf i).toNat)
    case atStart => exact ⟨0, Nat.zero_le _, rfl, 0, own_empty (Nat.le_refl _), (Below.refl _ _).alloc (Nat.le_refl _) _⟩
    case round =>
      obtain ⟨j, hj, rfl, n, hown, hbl⟩ := hrel
      have hsz := hbl.size
      have hn4 : n ≤ 4 := by have := hown.len; have := bitsTo_len K j; omega
      by_cases hlt : j < 4
      · cases hbit : bitAt K j with
        | true =>
          have ht := bit_test K j (by omega)
          rw [hbit] at ht
          have HB := Lib.hid hbit
          clear hbit
          go_wp2_with (first
            | (at_builtin; refine wpList_app1 _ _ _ _ _ _ hown hbl hsz ⟨by omega, by omega⟩ (by omega) rfl rfl rfl rfl ?_; intro v' w1 hown' hb' hsz'))
          rw [← bitsTo_yes HB.out] at hown'
          go_roundw
          case rel => exact ⟨j + 1, by omega, by go_num, n + 1, hown', hb'⟩
          case measure => simp [intOf]; omega
        | false =>
          have ht := bit_test K j (by omega)
          rw [hbit] at ht
          rw [← bitsTo_no hbit] at hown
          have HO := Lib.hid hown
          clear hbit hown
          go_wp2
          go_roundw
          case rel => exact ⟨j + 1, by omega, by go_num, n, HO.out, hbl⟩
          case measure => simp [intOf]; omega
      · obtain rfl : j = 4 := by omega
        obtain ⟨a, cap, rfl, _⟩ := own_form hown.row
        rw [← HT.out] at hown
        go_wp2
        go_ret
        exact ⟨_, _, _, rfl, hown, hbl⟩
  · replace hb : betw k 0 15 = false := by simpa using hb
    have HE := Lib.hid (show maskAtoms k = [] by simp [maskAtoms, hb])
    go_enter Try.func38, Try.ntmps38
    go_wp2_with (first | (go_at_call 51; refine (within_any _ _ _ _).mono ?_; rintro e w' ⟨rfl, rfl⟩))
    go_ret
    exact ⟨_, _, _, rfl, by rw [HE.out]; exact OwnInts.nil _ _, Below.refl _ _⟩

/-- total shared out in parts of at most largest: at most as many parts as the fuel. -/
def parts (largest : Int) : Nat → Int → List Int
  | 0, _ => []
  | f + 1, total => if 0 < total then min largest total :: parts largest f (total - min largest total) else []
/-- The sequence of the greatest norms: total shared out in parts of at most largest. -/
def fromNorms (total largest : Int) : List Int := if betw total 0 8 && decide (1 ≤ largest) then parts largest 8 total else []

theorem parts_step {largest total : Int} {f : Nat} (h : 0 < total) : parts largest (f + 1) total = min largest total :: parts largest f (total - min largest total) := by rw [parts, if_pos h]

set_option maxHeartbeats 400000 in
theorem fromNorms_impl (total largest : Int) (w : World) (h1 : I64 total) (h2 : I64 largest) :
    Calls Try.prog 13 #[.int .i64 total, .int .i64 largest] w fun e w' => ∃ b n c, e = .returned (.slice b n c) ∧ OwnInts w.heap.size w' (.slice b n c) n (fromNorms total largest) ∧ Below w.heap.size w w' := by
  obtain ⟨hla, hlb⟩ := h2
  by_cases hb : betw total 0 8 = true
  · by_cases hl : 1 ≤ largest
    · have h3 := hb
      simp only [betw, Bool.and_eq_true, decide_eq_true_eq] at h3
      have HT := Lib.hid (show fromNorms total largest = parts largest 8 total by simp [fromNorms, hb, hl])
      go_enter Try.func13, Try.ntmps13
      go_wp2_with (first | (go_at_call 51; refine (within_any _ _ _ _).mono ?_; rintro e w' ⟨rfl, rfl⟩))
      go_loopw [0, 5, 6] (fun t v _ wr => ∃ (j : Nat) (y : Int) (n : Nat) (xs : List Int), j ≤ 8 ∧ n ≤ 8 - j ∧ t = .int .i64 y ∧ 0 ≤ y ∧ y ≤ j ∧ OwnInts w.heap.size wr v n xs ∧ Hid (fromNorms total largest = xs ++ parts largest j y) ∧ Below w.heap.size w wr) (fun t _ _ _ => (intOf t).toNat)
      case atStart => exact ⟨8, total, 0, [], by omega, by omega, rfl, by omega, by omega, own_empty (Nat.le_refl _), HT.out, (Below.refl _ _).alloc (Nat.le_refl _) _⟩
      case round =>
        obtain ⟨j, y, n, xs, hj, hn, rfl, hy0, hyj, hown, hE, hbl⟩ := hrel
        have hsz := hbl.size
        by_cases hlt : 0 < y
        · obtain ⟨i, rfl⟩ : ∃ i, j = i + 1 := ⟨j - 1, by omega⟩
          obtain ⟨d, hd⟩ : ∃ d, d = min largest y := ⟨_, rfl⟩
          have HE := Lib.hid (show fromNorms total largest = (xs ++ [d]) ++ parts largest i (y - d) by rw [hE.out, parts_step hlt, ← hd]; simp)
          by_cases hle : largest ≤ y
          · obtain rfl : d = largest := by omega
            clear hd
            go_wp2_with (first
              | (at_builtin; refine wpList_app1 _ _ _ _ _ _ hown hbl hsz ⟨by omega, by omega⟩ (by omega) rfl rfl rfl rfl ?_; intro v' w1 hown' hb' hsz'))
            go_roundw
            case rel => exact ⟨i, y - d, n + 1, xs ++ [d], by omega, by omega, by go_num, by omega, by omega, hown', HE.out, hb'⟩
            case measure => simp [intOf]; omega
          · obtain rfl : d = y := by omega
            clear hd
            have hgt : d < largest := by omega
            go_wp2_with (first
              | (at_builtin; refine wpList_app1 _ _ _ _ _ _ hown hbl hsz ⟨by omega, by omega⟩ (by omega) rfl rfl rfl rfl ?_; intro v' w1 hown' hb' hsz'))
            go_roundw
            case rel => exact ⟨i, d - d, n + 1, xs ++ [d], by omega, by omega, by go_num, by omega, by omega, hown', HE.out, hb'⟩
            case measure => simp [intOf]; omega
        · have hE' : fromNorms total largest = xs := by
            rw [hE.out]
            cases j with
            | zero => simp [parts]
            | succ i => rw [parts, if_neg hlt]; simp
          obtain ⟨a, cap, rfl, _⟩ := own_form hown.row
          rw [← hE'] at hown
          have HO := Lib.hid hown
          clear hown hE'
          go_wp2
          go_ret
          exact ⟨_, _, _, rfl, HO.out, hbl⟩
    · have HE := Lib.hid (show fromNorms total largest = [] by simp [fromNorms, hl])
      have hl' : largest < 1 := by omega
      go_enter Try.func13, Try.ntmps13
      go_wp2_with (first | (go_at_call 51; refine (within_any _ _ _ _).mono ?_; rintro e w' ⟨rfl, rfl⟩))
      go_ret
      exact ⟨_, _, _, rfl, by rw [HE.out]; exact OwnInts.nil _ _, Below.refl _ _⟩
  · replace hb : betw total 0 8 = false := by simpa using hb
    have HE := Lib.hid (show fromNorms total largest = [] by simp [fromNorms, hb])
    go_enter Try.func13, Try.ntmps13
    go_wp2_with (first | (go_at_call 51; refine (within_any _ _ _ _).mono ?_; rintro e w' ⟨rfl, rfl⟩))
    go_ret
    exact ⟨_, _, _, rfl, by rw [HE.out]; exact OwnInts.nil _ _, Below.refl _ _⟩

end Go.Proofs.Ytehcjdbljdpmbaa

/- Contracts: names of one letter. -/
namespace Go.Proofs.Ytehcjdbljdpmbaa
open Go.RowKit
set_option linter.unusedVariables false
set_option linter.unusedSimpArgs false

/-- One letter from a to z. -/
def nameB (s : ByteArray) : Bool := decide (s.size = 1) && betw (s.data.toList.getD 0 0).toNat 97 122
theorem nameB_no {s : ByteArray} (h : s.size ≠ 1) : nameB s = false := by simp [nameB, h]
theorem nameB_one {c : UInt8} {s : ByteArray} (h : s = ⟨⟨[c]⟩⟩) : nameB s = betw c.toNat 97 122 := by subst h; simp [nameB, ByteArray.size]
theorem size_one {s : ByteArray} (h : s.size = 1) : ∃ c, s = ⟨⟨[c]⟩⟩ := by
  obtain ⟨⟨l⟩⟩ := s
  match l, h with
  | [c], _ => exact ⟨c, rfl⟩

theorem nameOk_any (s : ByteArray) (w : World) (hs : s.size ≤ 9223372036854775807) :
    Calls Try.prog 93 #[.string s] w fun e w' => e = .returned (.bool (nameB s)) ∧ w = w' := by
  by_cases h : s.size = 1
  · obtain ⟨c, rfl⟩ := size_one h
    have HE := Lib.hid (nameB_one (c := c) rfl)
    clear h
    go_enter Try.func93, Try.ntmps93
    go_wp2_with fail
    all_goals
      go_ret
      refine ⟨ret_bool (Eq.trans ?_ HE.out.symm), rfl⟩
      have e : ∀ h, ((⟨⟨[c]⟩⟩ : ByteArray)[0]'h) = c := fun _ => rfl
      simp only [e] at *
      clear HE
      first | (simp [betw]; done) | (simp [betw]; omega)
  · have HE := Lib.hid (nameB_no h)
    have h' : ((s.size : Int) == 1) = false := by rw [beq_eq_false_iff_ne]; omega
    clear h
    go_enter Try.func93, Try.ntmps93
    go_wp2_with fail
    go_ret
    exact ⟨ret_bool HE.out.symm, rfl⟩

theorem l4Name_any (s : ByteArray) (w : World) (hs : s.size ≤ 9223372036854775807) :
    Calls Try.prog 54 #[.string s] w fun e w' => e = .returned (.bool (nameB s)) ∧ w = w' := by
  by_cases h : s.size = 1
  · obtain ⟨c, rfl⟩ := size_one h
    have HE := Lib.hid (nameB_one (c := c) rfl)
    clear h
    go_enter Try.func54, Try.ntmps54
    go_wp2_with fail
    all_goals
      go_ret
      refine ⟨ret_bool (Eq.trans ?_ HE.out.symm), rfl⟩
      have e : ∀ h, ((⟨⟨[c]⟩⟩ : ByteArray)[0]'h) = c := fun _ => rfl
      simp only [e] at *
      clear HE
      first | (simp [betw]; done) | (simp [betw]; omega)
  · have HE := Lib.hid (nameB_no h)
    have h' : ((s.size : Int) == 1) = false := by rw [beq_eq_false_iff_ne]; omega
    clear h
    go_enter Try.func54, Try.ntmps54
    go_wp2_with fail
    go_ret
    exact ⟨ret_bool HE.out.symm, rfl⟩
end Go.Proofs.Ytehcjdbljdpmbaa

/- Contracts: totals, top degrees and bounds of degree sequences; the plain law of each. -/
namespace Go.Proofs.Ytehcjdbljdpmbaa
open Go.RowKit
set_option linter.unusedVariables false
set_option linter.unusedSimpArgs false

/-- Every prefix adds up to at most 8, and to no less than nought. -/
def Small (xs : List Int) : Prop := ∀ j, 0 ≤ (xs.take j).sum ∧ (xs.take j).sum ≤ 8

theorem degFrom_facts : ∀ (xs : List Int) (left prev : Int), 0 ≤ left → degFrom left prev xs = true → (∀ j, 0 ≤ (xs.take j).sum ∧ (xs.take j).sum ≤ left) ∧ (xs.length : Int) ≤ left ∧ ∀ x ∈ xs, 1 ≤ x ∧ x ≤ left := by
  intro xs
  induction xs with
  | nil => intro left prev h _; simp; omega
  | cons d t ih =>
    intro left prev h hd
    simp only [degFrom, Bool.and_eq_true, betw, decide_eq_true_eq] at hd
    obtain ⟨⟨⟨h1, h2⟩, _⟩, h4⟩ := hd
    obtain ⟨i1, i2, i3⟩ := ih (left - d) d (by omega) h4
    refine ⟨fun j => ?_, by simp; omega, ?_⟩
    · cases j with
      | zero => simp; omega
      | succ j => have := i1 j; simp; omega
    · intro x hx
      rcases List.mem_cons.1 hx with rfl | hx
      · exact ⟨h1, h2⟩
      · have := i3 x hx; omega
theorem isDeg_small {xs : List Int} (h : isDeg xs = true) : Small xs := (degFrom_facts xs 8 8 (by omega) h).1
theorem isDeg_len {xs : List Int} (h : isDeg xs = true) : xs.length ≤ 8 := by have := (degFrom_facts xs 8 8 (by omega) h).2.1; omega
theorem isDeg_mem {xs : List Int} (h : isDeg xs = true) : ∀ x ∈ xs, 1 ≤ x ∧ x ≤ 8 := (degFrom_facts xs 8 8 (by omega) h).2.2
theorem Small.take {xs : List Int} (h : Small xs) (k : Nat) : Small (xs.take k) := by
  intro j; rw [List.take_take]; exact h _
theorem getD_mem {xs : List Int} {k : Nat} (h : k < xs.length) : xs.getD k 0 ∈ xs := by
  rw [List.getD_eq_getElem?_getD, List.getElem?_eq_getElem h]; exact List.getElem_mem h
theorem sum_snoc (xs : List Int) (k : Nat) (x : Int) (h : k < xs.length) (hx : xs.getD k 0 = x) : (xs.take (k + 1)).sum = (xs.take k).sum + x := by
  rw [take_snoc xs k h, hx]; simp

set_option maxHeartbeats 400000 in
theorem sum_any (a : Option Addr) (n cap : Nat) (xs : List Int) (w : World) (h : Ints w a n xs) (hs : Small xs) :
    Calls Try.prog 49 #[.slice a n cap] w fun e w' => e = .returned (.int .i64 xs.sum) ∧ w = w' := by
  have hn := h.small
  have hl := h.len
  go_enter Try.func49, Try.ntmps49
  go_wp2
  go_loop [3, 5, 8] (fun s _ k => ∃ (j : Nat) (y : Int), j ≤ n ∧ k = .int .i64 j ∧ s = .int .i64 y ∧ Hid (y = (xs.take j).sum)) (fun _ _ k => n - (intOf k).toNat)
  case atStart => exact ⟨0, 0, Nat.zero_le _, rfl, rfl, rfl⟩
  case round =>
    obtain ⟨j, y, hj, rfl, rfl, hy⟩ := hrel
    have hsj := hs j
    rw [← hy.out] at hsj
    obtain ⟨hs1, hs2⟩ := hsj
    by_cases hlt : j < n
    · obtain ⟨b, off, x, rfl, hc, hx, hx1, hx2⟩ := h.get hlt
      have hsn := hs (j + 1)
      have HS := Lib.hid (sum_snoc xs j x (by omega) hx.out)
      rw [HS.out, ← hy.out] at hsn
      obtain ⟨hs3, hs4⟩ := hsn
      clear h hl
      go_wp2
      go_round
      case rel => exact ⟨j + 1, y + x, by omega, by go_num, rfl, by rw [Hid, HS.out, hy.out]⟩
      case measure => simp [intOf]; omega
    · have HE := Lib.hid (show y = xs.sum by rw [hy.out, List.take_of_length_le (by omega)])
      clear h hl
      go_wp2
      go_ret
      exact ⟨ret_int HE.out, rfl⟩

/-- What a degree sequence adds up to, nought if it is none. -/
def seqTotal (xs : List Int) : Int := if isDeg xs then xs.sum else 0

theorem seqTotal_impl (a : Option Addr) (n cap : Nat) (xs : List Int) (w : World) (h : Ints w a n xs) :
    Calls Try.prog 24 #[.slice a n cap] w fun e w' => e = .returned (.int .i64 (seqTotal xs)) ∧ w = w' := by
  by_cases hd : isDeg xs = true
  · have HE := Lib.hid (show xs.sum = seqTotal xs by simp [seqTotal, hd])
    have hs := isDeg_small hd
    go_enter Try.func24, Try.ntmps24
    go_wp2_with (first | (go_at_call 43; refine (isDeg_impl _ _ _ _ _ h).mono ?_; rintro e w' ⟨rfl, rfl⟩) | (go_at_call 49; refine (sum_any _ _ _ _ _ h hs).mono ?_; rintro e w' ⟨rfl, rfl⟩))
    go_ret
    exact ⟨ret_int HE.out, rfl⟩
  · have HE := Lib.hid (show 0 = seqTotal xs by simp [seqTotal, hd])
    replace hd : isDeg xs = false := by simpa using hd
    go_enter Try.func24, Try.ntmps24
    go_wp2_with (first | (go_at_call 43; refine (isDeg_impl _ _ _ _ _ h).mono ?_; rintro e w' ⟨rfl, rfl⟩))
    go_ret
    exact ⟨ret_int HE.out, rfl⟩

set_option maxHeartbeats 400000 in
theorem seqTotal_spec (a : Option Addr) (n cap : Nat) (xs : List Int) (w : World) (h : Ints w a n xs) :
    Calls Try.prog 14 #[.slice a n cap] w fun e w' => e = .returned (.int .i64 (seqTotal xs)) ∧ Drew w w' := by
  have hn := h.small
  have hl := h.len
  by_cases hd : isDeg xs = true
  · have hs := isDeg_small hd
    have HT := Lib.hid (show xs.sum = seqTotal xs by simp [seqTotal, hd])
    go_enter Try.func14, Try.ntmps14
    go_wp2
    go_loopw [3, 4] (fun s k wr => ∃ (j : Nat) (y : Int), j ≤ n ∧ k = .int .i64 j ∧ s = .int .i64 y ∧ Hid (y = (xs.take j).sum) ∧ Drew w wr) (fun _ k _ => n - (intOf k).toNat)
    case atStart => exact ⟨0, 0, Nat.zero_le _, rfl, rfl, rfl, Drew.refl _⟩
    case round =>
      obtain ⟨j, y, hj, rfl, rfl, hy, hdr⟩ := hrel
      replace h := h.drew hdr
      have hsj := hs j
      rw [← hy.out] at hsj
      obtain ⟨hs1, hs2⟩ := hsj
      by_cases hlt : j < n
      · have h' := h
        obtain ⟨b, off, x, rfl, hc, hx, hx1, hx2⟩ := h.get hlt
        have hsn := hs (j + 1)
        have HS := Lib.hid (sum_snoc xs j x (by omega) hx.out)
        rw [HS.out, ← hy.out] at hsn
        obtain ⟨hs3, hs4⟩ := hsn
        clear hl
        go_wp2_with (go_at_call 12; refine (isDeg_spec _ _ _ _ _ h').mono ?_; rintro e w' ⟨rfl, ⟨m, rfl⟩⟩)
        go_roundw
        case rel => exact ⟨j + 1, y + x, by omega, by go_num, rfl, by rw [Hid, HS.out, hy.out], hdr.step _⟩
        case measure => simp [intOf]; omega
      · have HE := Lib.hid (show y = seqTotal xs by rw [← HT.out, hy.out, List.take_of_length_le (by omega)])
        clear h hl
        go_wp2
        go_ret
        exact ⟨ret_int HE.out, hdr⟩
  · have HE := Lib.hid (show 0 = seqTotal xs by simp [seqTotal, hd])
    replace hd : isDeg xs = false := by simpa using hd
    go_enter Try.func14, Try.ntmps14
    go_wp2
    go_loopw [3, 4] (fun s k wr => k = .int .i64 0 ∧ s = .int .i64 0 ∧ wr = w) (fun _ _ _ => 0)
    case atStart => exact ⟨rfl, rfl, rfl⟩
    case round =>
      obtain ⟨rfl, rfl, rfl⟩ := hrel
      by_cases hlt : 0 < n
      · go_wp2_with (go_at_call 12; refine (isDeg_spec _ _ _ _ _ h).mono ?_; rintro e w' ⟨rfl, ⟨m, rfl⟩⟩)
        go_ret
        exact ⟨ret_int HE.out, _, rfl⟩
      · go_wp2
        go_ret
        exact ⟨ret_int HE.out, Drew.refl _⟩

/-- The sum of the k greatest degrees. -/
def topDeg (xs : List Int) (k : Int) : Int := if isDeg xs then (xs.take k.toNat).sum else 0

theorem Ints.take {w : World} {a : Option Addr} {n : Nat} {xs : List Int} (h : Ints w a n xs) {k : Nat} (hk : k ≤ n) : Ints w a k (xs.take k) := by
  have hl := h.len
  refine ⟨by simp; omega, by have := h.small; omega, fun i hi => ?_, fun x hx => h.rng x (List.mem_of_mem_take hx)⟩
  obtain ⟨b, off, ha, hc⟩ := h.cell i (by omega)
  refine ⟨b, off, ha, ?_⟩
  rw [hc]
  congr 2
  simp [List.getD_eq_getElem?_getD, hi]

set_option maxRecDepth 100000 in
set_option maxHeartbeats 400000 in
theorem topDeg_impl (a : Option Addr) (n cap : Nat) (xs : List Int) (k : Int) (w : World) (h : Ints w a n xs) (hc : n ≤ cap) (hc2 : cap ≤ 9223372036854775807) (hk : I64 k) :
    Calls Try.prog 47 #[.slice a n cap, .int .i64 k] w fun e w' => e = .returned (.int .i64 (topDeg xs k)) ∧ w = w' := by
  have hl := h.len
  obtain ⟨hk1, hk2⟩ := hk
  by_cases hk0 : k < 1
  · have HE := Lib.hid (show 0 = topDeg xs k by unfold topDeg; rw [show k.toNat = 0 by omega]; simp)
    go_enter Try.func47, Try.ntmps47
    go_wp2
    go_ret
    exact ⟨ret_int HE.out, rfl⟩
  · by_cases hd : isDeg xs = true
    · have hs := isDeg_small hd
      have hn8 := isDeg_len hd
      by_cases hkn : k ≤ n
      · obtain ⟨q, rfl⟩ := Int.eq_ofNat_of_zero_le (show 0 ≤ k by omega)
        have HE := Lib.hid (show (xs.take q).sum = topDeg xs q by simp [topDeg, hd])
        have ht := h.take (k := q) (by omega)
        clear hl
        go_enter Try.func47, Try.ntmps47
        go_wp2_with (first | (go_at_call 43; refine (isDeg_impl _ _ _ _ _ h).mono ?_; rintro e w' ⟨rfl, rfl⟩) | (go_at_call 49; refine (sum_any _ _ _ _ _ ht (hs.take _)).mono ?_; rintro e w' ⟨rfl, rfl⟩))
        go_ret
        exact ⟨ret_int HE.out, rfl⟩
      · have HE := Lib.hid (show xs.sum = topDeg xs k by simp [topDeg, hd, List.take_of_length_le (show xs.length ≤ k.toNat by omega)])
        clear hl
        go_enter Try.func47, Try.ntmps47
        go_wp2_with (first | (go_at_call 43; refine (isDeg_impl _ _ _ _ _ h).mono ?_; rintro e w' ⟨rfl, rfl⟩) | (go_at_call 49; refine (sum_any _ _ _ _ _ h hs).mono ?_; rintro e w' ⟨rfl, rfl⟩))
        go_ret
        exact ⟨ret_int HE.out, rfl⟩
    · have HE := Lib.hid (show 0 = topDeg xs k by simp [topDeg, hd])
      replace hd : isDeg xs = false := by simpa using hd
      go_enter Try.func47, Try.ntmps47
      go_wp2_with (first | (go_at_call 43; refine (isDeg_impl _ _ _ _ _ h).mono ?_; rintro e w' ⟨rfl, rfl⟩))
      go_ret
      exact ⟨ret_int HE.out, rfl⟩

set_option maxHeartbeats 400000 in
theorem topDeg_spec (a : Option Addr) (n cap : Nat) (xs : List Int) (k : Int) (w : World) (h : Ints w a n xs) (hk : I64 k) :
    Calls Try.prog 52 #[.slice a n cap, .int .i64 k] w fun e w' => e = .returned (.int .i64 (topDeg xs k)) ∧ Drew w w' := by
  have hn := h.small
  have hl := h.len
  obtain ⟨hk1, hk2⟩ := hk
  by_cases hd : isDeg xs = true
  · have hs := isDeg_small hd
    have HT := Lib.hid (show (xs.take k.toNat).sum = topDeg xs k by simp [topDeg, hd])
    go_enter Try.func52, Try.ntmps52
    go_wp2
    go_loopw [5, 6] (fun s i wr => ∃ (j : Nat) (y : Int), j ≤ n ∧ j ≤ k.toNat ∧ i = .int .i64 j ∧ s = .int .i64 y ∧ Hid (y = (xs.take j).sum) ∧ Drew w wr) (fun _ i _ => n - (intOf i).toNat)
    case atStart => exact ⟨0, 0, Nat.zero_le _, Nat.zero_le _, rfl, rfl, rfl, Drew.refl _⟩
    case round =>
      obtain ⟨j, y, hj, hjk, rfl, rfl, hy, hdr⟩ := hrel
      replace h := h.drew hdr
      have hsj := hs j
      rw [← hy.out] at hsj
      obtain ⟨hs1, hs2⟩ := hsj
      by_cases hlt : j < n
      · by_cases hlk : (j : Int) < k
        · have h' := h
          obtain ⟨b, off, x, rfl, hc, hx, hx1, hx2⟩ := h.get hlt
          have hsn := hs (j + 1)
          have HS := Lib.hid (sum_snoc xs j x (by omega) hx.out)
          rw [HS.out, ← hy.out] at hsn
          obtain ⟨hs3, hs4⟩ := hsn
          clear hl
          go_wp2_with (go_at_call 12; refine (isDeg_spec _ _ _ _ _ h').mono ?_; rintro e w' ⟨rfl, ⟨m, rfl⟩⟩)
          go_roundw
          case rel => exact ⟨j + 1, y + x, by omega, by omega, by go_num, rfl, by rw [Hid, HS.out, hy.out], hdr.step _⟩
          case measure => simp [intOf]; omega
        · have HE := Lib.hid (show y = topDeg xs k by rw [← HT.out, hy.out, show k.toNat = j by omega])
          clear h hl
          go_wp2
          go_ret
          exact ⟨ret_int HE.out, hdr⟩
      · have HE := Lib.hid (show y = topDeg xs k by rw [← HT.out, hy.out, List.take_of_length_le (show xs.length ≤ j by omega), List.take_of_length_le (show xs.length ≤ k.toNat by omega)])
        clear h hl
        go_wp2
        go_ret
        exact ⟨ret_int HE.out, hdr⟩
  · have HE := Lib.hid (show 0 = topDeg xs k by simp [topDeg, hd])
    replace hd : isDeg xs = false := by simpa using hd
    go_enter Try.func52, Try.ntmps52
    go_wp2
    go_loopw [5, 6] (fun s i wr => i = .int .i64 0 ∧ s = .int .i64 0 ∧ wr = w) (fun _ _ _ => 0)
    case atStart => exact ⟨rfl, rfl, rfl⟩
    case round =>
      obtain ⟨rfl, rfl, rfl⟩ := hrel
      by_cases hlt : 0 < n
      · by_cases hlk : (0 : Int) < k
        · go_wp2_with (go_at_call 12; refine (isDeg_spec _ _ _ _ _ h).mono ?_; rintro e w' ⟨rfl, ⟨m, rfl⟩⟩)
          go_ret
          exact ⟨ret_int HE.out, _, rfl⟩
        · go_wp2
          go_ret
          exact ⟨ret_int HE.out, Drew.refl _⟩
      · go_wp2
        go_ret
        exact ⟨ret_int HE.out, Drew.refl _⟩

end Go.Proofs.Ytehcjdbljdpmbaa

/- Contracts: powers, norms and integer roots. -/
namespace Go.Proofs.Ytehcjdbljdpmbaa
open Go.RowKit
set_option linter.unusedVariables false
set_option linter.unusedSimpArgs false

/-- n to the p-th. -/
def pw (n p : Nat) : Nat := n ^ p
theorem pw_zero (n : Nat) : pw n 0 = 1 := by simp [pw]
theorem pw_succ (n p : Nat) : pw n (p + 1) = pw n p * n := by simp [pw, Nat.pow_succ]
theorem pw_mono {a b : Nat} (p : Nat) (h : a ≤ b) : pw a p ≤ pw b p := Nat.pow_le_pow_left h p
theorem pw_ge (a p : Nat) (hp : 1 ≤ p) : a ≤ pw a p := by
  unfold pw
  cases a with
  | zero => exact Nat.zero_le _
  | succ a => exact Nat.le_self_pow (by omega) _
theorem pw_top {a p : Nat} (ha : a ≤ 1000001) (hp : p ≤ 3) : pw a p ≤ 1000003000003000001 := by
  refine Nat.le_trans (pw_mono p ha) ?_
  rcases (by omega : p = 0 ∨ p = 1 ∨ p = 2 ∨ p = 3) with rfl | rfl | rfl | rfl <;> decide
theorem pw_top2 {a p : Nat} (ha : a ≤ 1000001) (hp : p ≤ 2) : pw a p ≤ 1000002000001 := by
  refine Nat.le_trans (pw_mono p ha) ?_
  rcases (by omega : p = 0 ∨ p = 1 ∨ p = 2) with rfl | rfl | rfl <;> decide

set_option maxHeartbeats 400000 in
theorem power_any (a k : Int) (w : World) (ha : 0 ≤ a ∧ a ≤ 1000001) (hk : 0 ≤ k ∧ k ≤ 3) :
    Calls Try.prog 61 #[.int .i64 a, .int .i64 k] w fun e w' => e = .returned (.int .i64 (pw a.toNat k.toNat)) ∧ w = w' := by
  obtain ⟨A, rfl⟩ := Int.eq_ofNat_of_zero_le ha.1
  obtain ⟨K, rfl⟩ := Int.eq_ofNat_of_zero_le hk.1
  have hA : A ≤ 1000001 := by omega
  have hK : K ≤ 3 := by omega
  clear ha hk
  go_enter Try.func61, Try.ntmps61
  go_wp2
  go_loop [1, 5] (fun q s => ∃ (j y : Nat), j ≤ K ∧ q = .int .i64 ((K : Int) - j) ∧ s = .int .i64 y ∧ Hid (y = pw A j)) (fun q _ => (intOf q).toNat)
  case atStart => exact ⟨0, 1, Nat.zero_le _, by go_num, rfl, (pw_zero A).symm⟩
  case round =>
    obtain ⟨j, y, hj, rfl, rfl, hy⟩ := hrel
    by_cases hlt : j < K
    · have hb := pw_top (p := j + 1) hA (by omega)
      rw [pw_succ, ← hy.out] at hb
      have hb1 : (y : Int) * (A : Int) ≤ 1000003000003000001 := by have h3 := Int.ofNat_le.2 hb; rw [Int.natCast_mul] at h3; omega
      have hb0 : 0 ≤ (y : Int) * (A : Int) := by exact_mod_cast Nat.zero_le (y * A)
      clear hb
      have hgt : 0 < (K : Int) - j := by omega
      go_wp2
      go_round
      case rel => exact ⟨j + 1, y * A, by omega, by go_num, by go_num, by rw [Hid, pw_succ, hy.out]⟩
      case measure => simp [intOf]; omega
    · obtain rfl : j = K := by omega
      have HE := Lib.hid (show (y : Int) = (pw A j : Nat) by rw [hy.out])
      go_wp2
      go_ret
      exact ⟨ret_int (by rw [HE.out]; try rfl), rfl⟩

/-- The greatest r whose k-th power is no more than n. -/
def IsRoot (n k r : Nat) : Prop := pw r k ≤ n ∧ n < pw (r + 1) k
open Classical in
noncomputable def iroot (n k : Nat) : Nat := if h : ∃ r, IsRoot n k r then h.choose else 0
theorem root_one {n k r s : Nat} (h1 : IsRoot n k r) (h2 : IsRoot n k s) : r = s := by
  rcases Nat.lt_trichotomy r s with h | h | h
  · have := pw_mono k (show r + 1 ≤ s by omega); have := h1.2; have := h2.1; omega
  · exact h
  · have := pw_mono k (show s + 1 ≤ r by omega); have := h2.2; have := h1.1; omega
theorem iroot_eq {n k r : Nat} (h : IsRoot n k r) : iroot n k = r := by
  have hx : ∃ r, IsRoot n k r := ⟨r, h⟩
  unfold iroot
  rw [dif_pos hx]
  exact root_one hx.choose_spec h
noncomputable def rootOf (n k : Int) : Int := if betw n 0 1000000 && betw k 1 3 then (iroot n.toNat k.toNat : Int) else -1

set_option maxHeartbeats 400000 in
theorem root_impl (n k : Int) (w : World) :
    Calls Try.prog 20 #[.int .i64 n, .int .i64 k] w fun e w' => e = .returned (.int .i64 (rootOf n k)) ∧ w = w' := by
  by_cases hb : betw n 0 1000000 = true
  · by_cases hb2 : betw k 1 3 = true
    · have h1 := hb
      have h2 := hb2
      simp only [betw, Bool.and_eq_true, decide_eq_true_eq] at h1 h2
      obtain ⟨N, rfl⟩ := Int.eq_ofNat_of_zero_le h1.1
      obtain ⟨K, rfl⟩ := Int.eq_ofNat_of_zero_le (show 0 ≤ k by omega)
      have hN : N ≤ 1000000 := by omega
      have hK : 1 ≤ K ∧ K ≤ 3 := by omega
      have HT := Lib.hid (show rootOf N K = (iroot N K : Int) by simp [rootOf, hb, hb2])
      clear h1 h2
      go_enter Try.func20, Try.ntmps20
      go_wp2_with (go_at_call 51; refine (within_any _ _ _ _).mono ?_; rintro e w' ⟨rfl, rfl⟩)
      go_loop [5] (fun q => ∃ (r : Nat), r ≤ N ∧ q = .int .i64 r ∧ Hid (pw r K ≤ N)) (fun q => N - (intOf q).toNat)
      case atStart => exact ⟨0, Nat.zero_le _, rfl, by unfold Hid pw; rw [Nat.zero_pow (by omega)]; omega⟩
      case round =>
        obtain ⟨r, hr, rfl, hE⟩ := hrel
        obtain ⟨p, hp⟩ : ∃ p, p = pw (r + 1) K := ⟨_, rfl⟩
        have Hp := Lib.hid hp
        have hge := pw_ge (r + 1) K hK.1
        rw [← hp] at hge
        have hcall := power_any ((r : Int) + 1) (K : Int) w ⟨by omega, by omega⟩ ⟨by omega, by omega⟩
        rw [show ((r : Int) + 1).toNat = r + 1 by omega, Int.toNat_natCast, ← hp] at hcall
        have HC := Lib.hid hcall
        clear hp hcall
        by_cases hle : p ≤ N
        · go_wp2_with (go_at_call 61; refine HC.out.mono ?_; rintro e w' ⟨rfl, rfl⟩)
          go_round
          case rel => exact ⟨r + 1, by omega, by go_num, by rw [Hid, ← Hp.out]; exact hle⟩
          case measure => simp [intOf]; omega
        · have HE := Lib.hid (show (r : Int) = rootOf N K by rw [HT.out, iroot_eq ⟨hE.out, by rw [← Hp.out]; omega⟩])
          go_wp2_with (go_at_call 61; refine HC.out.mono ?_; rintro e w' ⟨rfl, rfl⟩)
          go_ret
          exact ⟨ret_int HE.out, rfl⟩
    · replace hb2 : betw k 1 3 = false := by simpa using hb2
      have HE := Lib.hid (show -1 = rootOf n k by simp [rootOf, hb2])
      go_enter Try.func20, Try.ntmps20
      go_wp2_with (go_at_call 51; refine (within_any _ _ _ _).mono ?_; rintro e w' ⟨rfl, rfl⟩)
      go_ret
      exact ⟨ret_int HE.out, rfl⟩
  · replace hb : betw n 0 1000000 = false := by simpa using hb
    have HE := Lib.hid (show -1 = rootOf n k by simp [rootOf, hb])
    go_enter Try.func20, Try.ntmps20
    go_wp2_with (go_at_call 51; refine (within_any _ _ _ _).mono ?_; rintro e w' ⟨rfl, rfl⟩)
    go_ret
    exact ⟨ret_int HE.out, rfl⟩

set_option maxHeartbeats 400000 in
theorem root_spec (n k : Int) (w : World) :
    Calls Try.prog 22 #[.int .i64 n, .int .i64 k] w fun e w' => e = .returned (.int .i64 (rootOf n k)) ∧ w = w' := by
  by_cases hb : betw n 0 1000000 = true
  · by_cases hb2 : betw k 1 3 = true
    · have h1 := hb
      have h2 := hb2
      simp only [betw, Bool.and_eq_true, decide_eq_true_eq] at h1 h2
      obtain ⟨N, rfl⟩ := Int.eq_ofNat_of_zero_le h1.1
      obtain ⟨K, rfl⟩ := Int.eq_ofNat_of_zero_le (show 0 ≤ k by omega)
      have hN : N ≤ 1000000 := by omega
      have hK : 1 ≤ K ∧ K ≤ 3 := by omega
      have HT := Lib.hid (show rootOf N K = (iroot N K : Int) by simp [rootOf, hb, hb2])
      clear h1 h2
      by_cases hk1 : K = 1
      · subst hk1
        have HE := Lib.hid (show (N : Int) = rootOf N (1 : Nat) by rw [HT.out, iroot_eq (r := N) ⟨by simp [pw], by simp [pw]⟩])
        go_enter Try.func22, Try.ntmps22
        go_wp2_with (go_at_call 50; refine (l1In_any _ _ _ _).mono ?_; rintro e w' ⟨rfl, rfl⟩)
        go_ret
        exact ⟨ret_int HE.out, rfl⟩
      · have hne : ((K : Int) == 1) = false := by rw [beq_eq_false_iff_ne]; omega
        go_enter Try.func22, Try.ntmps22
        go_wp2_with (go_at_call 50; refine (l1In_any _ _ _ _).mono ?_; rintro e w' ⟨rfl, rfl⟩)
        go_loop [5, 6, 7] (fun q _ _ => ∃ (r : Nat), r ≤ N ∧ q = .int .i64 r ∧ Hid (pw r K ≤ N)) (fun q _ _ => N - (intOf q).toNat)
        case atStart => exact ⟨0, Nat.zero_le _, rfl, by unfold Hid pw; rw [Nat.zero_pow (by omega)]; omega⟩
        case round =>
          obtain ⟨r, hr, rfl, hE⟩ := hrel
          go_wp2
          go_loop [6, 7] (fun x i => ∃ (j y : Nat), j ≤ K ∧ i = .int .i64 j ∧ x = .int .i64 y ∧ Hid (y = pw (r + 1) j)) (fun _ i => K - (intOf i).toNat)
          case atStart => exact ⟨0, 1, Nat.zero_le _, rfl, rfl, (pw_zero _).symm⟩
          case round =>
            obtain ⟨j, y, hj, rfl, rfl, hy⟩ := hrel
            by_cases hlt : j < K
            · have hb := pw_top (a := r + 1) (p := j + 1) (by omega) (by omega)
              rw [pw_succ, ← hy.out] at hb
              have hb1 : (y : Int) * ((r : Int) + 1) ≤ 1000003000003000001 := by have h3 := Int.ofNat_le.2 hb; rw [Int.natCast_mul, Int.natCast_add] at h3; exact h3
              have hb0 : 0 ≤ (y : Int) * ((r : Int) + 1) := by exact_mod_cast Nat.zero_le (y * (r + 1))
              clear hb
              go_wp2
              go_round
              case rel => exact ⟨j + 1, y * (r + 1), by omega, by go_num, by go_num, by rw [Hid, pw_succ, hy.out]⟩
              case measure => simp [intOf]; omega
            · obtain rfl : j = K := by omega
              by_cases hle : y ≤ N
              · have HE := Lib.hid (show pw (r + 1) j ≤ N by rw [← hy.out]; exact hle)
                have hge := pw_ge (r + 1) j hK.1
                have hr1 : r + 1 ≤ N := by have := HE.out; omega
                clear hge
                go_wp2
                go_round
                case rel => exact ⟨r + 1, hr1, by go_num, HE.out⟩
                case measure => simp [intOf]; omega
              · have HE := Lib.hid (show (r : Int) = rootOf N j by rw [HT.out, iroot_eq ⟨hE.out, by rw [← hy.out]; omega⟩])
                go_wp2
                go_ret
                exact ⟨ret_int HE.out, rfl⟩
    · replace hb2 : betw k 1 3 = false := by simpa using hb2
      have HE := Lib.hid (show -1 = rootOf n k by simp [rootOf, hb2])
      go_enter Try.func22, Try.ntmps22
      go_wp2_with (go_at_call 50; refine (l1In_any _ _ _ _).mono ?_; rintro e w' ⟨rfl, rfl⟩)
      go_ret
      exact ⟨ret_int HE.out, rfl⟩
  · replace hb : betw n 0 1000000 = false := by simpa using hb
    have HE := Lib.hid (show -1 = rootOf n k by simp [rootOf, hb])
    go_enter Try.func22, Try.ntmps22
    go_wp2_with (go_at_call 50; refine (l1In_any _ _ _ _).mono ?_; rintro e w' ⟨rfl, rfl⟩)
    go_ret
    exact ⟨ret_int HE.out, rfl⟩

/-- The sum of the p-th powers of a degree sequence. -/
def pwSum (xs : List Int) (p : Nat) : Nat := (xs.map fun x => pw x.toNat p).sum
def normOf (xs : List Int) (p : Int) : Int := if betw p 1 3 && isDeg xs then (pwSum xs p.toNat : Int) else 0
theorem pwSum_snoc (xs : List Int) (j p : Nat) (x : Int) (h : j < xs.length) (hx : xs.getD j 0 = x) : pwSum (xs.take (j + 1)) p = pwSum (xs.take j) p + pw x.toNat p := by
  rw [take_snoc xs j h, hx]; simp [pwSum]
theorem pwSum_le (p : Nat) (hp : p ≤ 3) : ∀ (xs : List Int), (∀ x ∈ xs, 1 ≤ x ∧ x ≤ 8) → pwSum xs p ≤ 512 * xs.length
  | [], _ => by simp [pwSum]
  | x :: xs, h => by
    have ih := pwSum_le p hp xs (fun z hz => h z (List.mem_cons_of_mem _ hz))
    have hx := h x (List.mem_cons_self ..)
    have h1 : pw x.toNat p ≤ 512 := by
      refine Nat.le_trans (pw_mono p (show x.toNat ≤ 8 by omega)) ?_
      rcases (by omega : p = 0 ∨ p = 1 ∨ p = 2 ∨ p = 3) with rfl | rfl | rfl | rfl <;> decide
    simp only [pwSum, List.map_cons, List.sum_cons, List.length_cons] at ih ⊢
    omega
theorem norm_rng (xs : List Int) (p : Int) : 0 ≤ normOf xs p ∧ normOf xs p ≤ 4096 := by
  unfold normOf
  by_cases h : (betw p 1 3 && isDeg xs) = true
  · rw [if_pos h]
    simp only [Bool.and_eq_true, betw, decide_eq_true_eq] at h
    have h1 := pwSum_le p.toNat (by omega) xs (isDeg_mem h.2)
    have h2 := isDeg_len h.2
    omega
  · rw [if_neg h]; omega

set_option maxHeartbeats 400000 in
theorem norm_impl (a : Option Addr) (n cap : Nat) (xs : List Int) (p : Int) (w : World) (h : Ints w a n xs) :
    Calls Try.prog 23 #[.slice a n cap, .int .i64 p] w fun e w' => e = .returned (.int .i64 (normOf xs p)) ∧ w = w' := by
  have hl := h.len
  by_cases hb : betw p 1 3 = true
  · by_cases hd : isDeg xs = true
    · have h1 := hb
      simp only [betw, Bool.and_eq_true, decide_eq_true_eq] at h1
      obtain ⟨K, rfl⟩ := Int.eq_ofNat_of_zero_le (show 0 ≤ p by omega)
      have hK : 1 ≤ K ∧ K ≤ 3 := by omega
      have hn8 := isDeg_len hd
      have HT := Lib.hid (show normOf xs K = (pwSum xs K : Int) by simp [normOf, hb, hd])
      clear h1
      go_enter Try.func23, Try.ntmps23
      go_wp2_with (first | (go_at_call 51; refine (within_any _ _ _ _).mono ?_; rintro e w' ⟨rfl, rfl⟩) | (go_at_call 43; refine (isDeg_impl _ _ _ _ _ h).mono ?_; rintro e w' ⟨rfl, rfl⟩))
      go_loop [5, 7, 18] (fun s _ i => ∃ (j y : Nat), j ≤ n ∧ i = .int .i64 j ∧ s = .int .i64 y ∧ y ≤ 512 * j ∧ Hid (y = pwSum (xs.take j) K)) (fun _ _ i => n - (intOf i).toNat)
      case atStart => exact ⟨0, 0, Nat.zero_le _, rfl, rfl, by omega, by simp [Hid, pwSum]⟩
      case round =>
        obtain ⟨j, y, hj, rfl, rfl, hy0, hy⟩ := hrel
        by_cases hlt : j < n
        · obtain ⟨b, off, x, rfl, hc, hx, hx1, hx2⟩ := h.get hlt
          have hm := isDeg_mem hd x (by rw [← hx.out]; exact getD_mem (by omega))
          have hcall := power_any x (K : Int) w ⟨by omega, by omega⟩ ⟨by omega, by omega⟩
          rw [Int.toNat_natCast] at hcall
          obtain ⟨q, hq⟩ : ∃ q, q = pw x.toNat K := ⟨_, rfl⟩
          rw [← hq] at hcall
          have hq1 : q ≤ 512 := by
            have h1 := pwSum_le K hK.2 [x] (by simpa using hm)
            simpa [pwSum, hq] using h1
          have HC := Lib.hid hcall
          have HE := Lib.hid (show y + q = pwSum (xs.take (j + 1)) K by rw [pwSum_snoc xs j K x (by omega) hx.out, hy.out, hq])
          clear hq hcall h
          go_wp2_with (go_at_call 61; refine HC.out.mono ?_; rintro e w' ⟨rfl, rfl⟩)
          go_round
          case rel => exact ⟨j + 1, y + q, by omega, by go_num, by go_num, by omega, HE⟩
          case measure => simp [intOf]; omega
        · have HE := Lib.hid (show (y : Int) = normOf xs K by rw [HT.out, hy.out, List.take_of_length_le (by omega)])
          clear h
          go_wp2
          go_ret
          exact ⟨ret_int HE.out, rfl⟩
    · replace hd : isDeg xs = false := by simpa using hd
      have HE := Lib.hid (show 0 = normOf xs p by simp [normOf, hd])
      go_enter Try.func23, Try.ntmps23
      go_wp2_with (first | (go_at_call 51; refine (within_any _ _ _ _).mono ?_; rintro e w' ⟨rfl, rfl⟩) | (go_at_call 43; refine (isDeg_impl _ _ _ _ _ h).mono ?_; rintro e w' ⟨rfl, rfl⟩))
      go_ret
      exact ⟨ret_int HE.out, rfl⟩
  · replace hb : betw p 1 3 = false := by simpa using hb
    have HE := Lib.hid (show 0 = normOf xs p by simp [normOf, hb])
    go_enter Try.func23, Try.ntmps23
    go_wp2_with (first | (go_at_call 51; refine (within_any _ _ _ _).mono ?_; rintro e w' ⟨rfl, rfl⟩))
    go_ret
    exact ⟨ret_int HE.out, rfl⟩

end Go.Proofs.Ytehcjdbljdpmbaa

/- Contracts: comparing degree sequences, and the bounds of a pair of them. -/
namespace Go.Proofs.Ytehcjdbljdpmbaa
open Go.RowKit
set_option linter.unusedVariables false
set_option linter.unusedSimpArgs false

/-- Whether each total of the k greatest degrees of a is no less than that of b. -/
def dominates (a b : List Int) : Bool := (isDeg a && isDeg b) && (List.range 8).all fun i => decide (topDeg b ((i : Int) + 1) ≤ topDeg a ((i : Int) + 1))

theorem topDeg_rng (xs : List Int) (k : Int) : 0 ≤ topDeg xs k ∧ topDeg xs k ≤ 8 := by
  unfold topDeg
  by_cases hd : isDeg xs = true
  · rw [if_pos hd]; exact isDeg_small hd _
  · rw [if_neg hd]; omega

theorem dom_no {xs ys : List Int} {j : Nat} (hj : j < 8) (h : topDeg xs ((j : Int) + 1) < topDeg ys ((j : Int) + 1)) : dominates xs ys = false := by
  unfold dominates
  rw [Bool.and_eq_false_iff]
  right
  rw [List.all_eq_false]
  exact ⟨j, by simpa using hj, by simpa using h⟩
theorem dom_yes {xs ys : List Int} (h1 : isDeg xs = true) (h2 : isDeg ys = true) (h : ∀ i : Nat, i < 8 → topDeg ys ((i : Int) + 1) ≤ topDeg xs ((i : Int) + 1)) : dominates xs ys = true := by
  unfold dominates
  rw [h1, h2]
  simp only [Bool.and_self, Bool.true_and, List.all_eq_true, List.mem_range, decide_eq_true_eq]
  exact h

set_option maxHeartbeats 400000 in
theorem dominates_impl (a b : Option Addr) (n m cap cap' : Nat) (xs ys : List Int) (w : World) (h : Ints w a n xs) (h' : Ints w b m ys) (hc : n ≤ cap ∧ cap ≤ 9223372036854775807) (hc' : m ≤ cap' ∧ cap' ≤ 9223372036854775807) :
    Calls Try.prog 46 #[.slice a n cap, .slice b m cap'] w fun e w' => e = .returned (.bool (dominates xs ys)) ∧ w = w' := by
  by_cases hd : isDeg xs = true ∧ isDeg ys = true
  · obtain ⟨hd1, hd2⟩ := hd
    go_enter Try.func46, Try.ntmps46
    go_wp2_with fail
    refine (isDeg_impl _ _ _ _ _ h).mono ?_
    rintro e w' ⟨rfl, rfl⟩
    go_wp2_with fail
    refine (isDeg_impl _ _ _ _ _ h').mono ?_
    rintro e w' ⟨rfl, rfl⟩
    go_wp2_with fail
    go_loop [5] (fun i => ∃ j : Nat, j ≤ 8 ∧ i = .int .i64 (j + 1) ∧ Hid (∀ i : Nat, i < j → topDeg ys ((i : Int) + 1) ≤ topDeg xs ((i : Int) + 1))) (fun i => 9 - (intOf i).toNat)
    case atStart => exact ⟨0, by omega, rfl, fun i hi => by omega⟩
    case round =>
      obtain ⟨j, hj, rfl, hE⟩ := hrel
      by_cases hlt : j < 8
      · obtain ⟨p, hp⟩ : ∃ p, p = topDeg xs ((j : Int) + 1) := ⟨_, rfl⟩
        obtain ⟨q, hq⟩ : ∃ q, q = topDeg ys ((j : Int) + 1) := ⟨_, rfl⟩
        have Hp := Lib.hid hp
        have Hq := Lib.hid hq
        clear hp hq
        have hjr : I64 ((j : Int) + 1) := ⟨by omega, by omega⟩
        by_cases hpq : p < q
        · have HE := Lib.hid (dom_no hlt (show topDeg xs ((j : Int) + 1) < topDeg ys ((j : Int) + 1) by rw [← Hp.out, ← Hq.out]; exact hpq))
          go_wp2_with fail
          refine (topDeg_impl _ _ _ _ _ _ h hc.1 hc.2 hjr).mono ?_
          rintro e w' ⟨rfl, rfl⟩
          rw [← Hp.out]
          go_wp2_with fail
          refine (topDeg_impl _ _ _ _ _ _ h' hc'.1 hc'.2 hjr).mono ?_
          rintro e w' ⟨rfl, rfl⟩
          rw [← Hq.out]
          go_wp2_with fail
          go_ret
          exact ⟨ret_bool HE.out.symm, rfl⟩
        · have HE : Hid (∀ i : Nat, i < j + 1 → topDeg ys ((i : Int) + 1) ≤ topDeg xs ((i : Int) + 1)) := by
            intro i hi
            by_cases hij : i < j
            · exact hE.out i hij
            · obtain rfl : i = j := by omega
              rw [← Hp.out, ← Hq.out]; omega
          go_wp2_with fail
          refine (topDeg_impl _ _ _ _ _ _ h hc.1 hc.2 hjr).mono ?_
          rintro e w' ⟨rfl, rfl⟩
          rw [← Hp.out]
          go_wp2_with fail
          refine (topDeg_impl _ _ _ _ _ _ h' hc'.1 hc'.2 hjr).mono ?_
          rintro e w' ⟨rfl, rfl⟩
          rw [← Hq.out]
          go_wp2_with fail
          go_round
          case rel => exact ⟨j + 1, by omega, by go_num, HE⟩
          case measure => simp [intOf]; omega
      · obtain rfl : j = 8 := by omega
        have HE := Lib.hid (dom_yes hd1 hd2 hE.out)
        go_wp2
        go_ret
        exact ⟨ret_bool HE.out.symm, rfl⟩
  · have HE := Lib.hid (show dominates xs ys = false by
      unfold dominates
      rw [show (isDeg xs && isDeg ys) = false by rw [← Bool.not_eq_true, Bool.and_eq_true]; exact hd, Bool.false_and])
    by_cases hd1 : isDeg xs = true
    · have hd2 : isDeg ys = false := by simpa [hd1] using hd
      clear hd
      go_enter Try.func46, Try.ntmps46
      go_wp2_with fail
      refine (isDeg_impl _ _ _ _ _ h).mono ?_
      rintro e w' ⟨rfl, rfl⟩
      go_wp2_with fail
      refine (isDeg_impl _ _ _ _ _ h').mono ?_
      rintro e w' ⟨rfl, rfl⟩
      go_wp2_with fail
      go_ret
      exact ⟨ret_bool HE.out.symm, rfl⟩
    · replace hd1 : isDeg xs = false := by simpa using hd1
      clear hd
      go_enter Try.func46, Try.ntmps46
      go_wp2_with fail
      refine (isDeg_impl _ _ _ _ _ h).mono ?_
      rintro e w' ⟨rfl, rfl⟩
      go_wp2_with fail
      go_ret
      exact ⟨ret_bool HE.out.symm, rfl⟩

set_option maxHeartbeats 400000 in
theorem dominates_spec (a b : Option Addr) (n m cap cap' : Nat) (xs ys : List Int) (w : World) (h : Ints w a n xs) (h' : Ints w b m ys) :
    Calls Try.prog 15 #[.slice a n cap, .slice b m cap'] w fun e w' => e = .returned (.bool (dominates xs ys)) ∧ Drew w w' := by
  by_cases hd : isDeg xs = true ∧ isDeg ys = true
  · obtain ⟨hd1, hd2⟩ := hd
    go_enter Try.func15, Try.ntmps15
    go_wp2_with fail
    refine (isDeg_spec _ _ _ _ _ h).mono ?_
    rintro e w1 ⟨rfl, d1⟩
    go_wp2_with fail
    refine (isDeg_spec _ _ _ _ _ (h'.drew d1)).mono ?_
    rintro e w2 ⟨rfl, d2⟩
    replace d2 := d1.trans d2
    clear d1
    go_wp2_with fail
    go_loopw [5] (fun i wr => ∃ j : Nat, j ≤ 8 ∧ i = .int .i64 (j + 1) ∧ Hid (∀ i : Nat, i < j → topDeg ys ((i : Int) + 1) ≤ topDeg xs ((i : Int) + 1)) ∧ Drew w wr) (fun i _ => 9 - (intOf i).toNat)
    case atStart => exact ⟨0, by omega, rfl, fun i hi => by omega, d2⟩
    case round =>
      obtain ⟨j, hj, rfl, hE, hdr⟩ := hrel
      clear d2
      by_cases hlt : j < 8
      · obtain ⟨p, hp⟩ : ∃ p, p = topDeg xs ((j : Int) + 1) := ⟨_, rfl⟩
        obtain ⟨q, hq⟩ : ∃ q, q = topDeg ys ((j : Int) + 1) := ⟨_, rfl⟩
        have Hp := Lib.hid hp
        have Hq := Lib.hid hq
        clear hp hq
        have hjr : I64 ((j : Int) + 1) := ⟨by omega, by omega⟩
        by_cases hpq : p < q
        · have HE := Lib.hid (dom_no hlt (show topDeg xs ((j : Int) + 1) < topDeg ys ((j : Int) + 1) by rw [← Hp.out, ← Hq.out]; exact hpq))
          go_wp2_with fail
          refine (topDeg_spec _ _ _ _ _ _ (h.drew hdr) hjr).mono ?_
          rintro e w3 ⟨rfl, d3⟩
          replace d3 := hdr.trans d3
          rw [← Hp.out]
          go_wp2_with fail
          refine (topDeg_spec _ _ _ _ _ _ (h'.drew d3) hjr).mono ?_
          rintro e w4 ⟨rfl, d4⟩
          replace d4 := d3.trans d4
          rw [← Hq.out]
          go_wp2_with fail
          go_ret
          exact ⟨ret_bool HE.out.symm, d4⟩
        · have HE : Hid (∀ i : Nat, i < j + 1 → topDeg ys ((i : Int) + 1) ≤ topDeg xs ((i : Int) + 1)) := by
            intro i hi
            by_cases hij : i < j
            · exact hE.out i hij
            · obtain rfl : i = j := by omega
              rw [← Hp.out, ← Hq.out]; omega
          go_wp2_with fail
          refine (topDeg_spec _ _ _ _ _ _ (h.drew hdr) hjr).mono ?_
          rintro e w3 ⟨rfl, d3⟩
          replace d3 := hdr.trans d3
          rw [← Hp.out]
          go_wp2_with fail
          refine (topDeg_spec _ _ _ _ _ _ (h'.drew d3) hjr).mono ?_
          rintro e w4 ⟨rfl, d4⟩
          replace d4 := d3.trans d4
          rw [← Hq.out]
          go_wp2_with fail
          go_roundw
          case rel => exact ⟨j + 1, by omega, by go_num, HE, d4⟩
          case measure => simp [intOf]; omega
      · obtain rfl : j = 8 := by omega
        have HE := Lib.hid (dom_yes hd1 hd2 hE.out)
        go_wp2
        go_ret
        exact ⟨ret_bool HE.out.symm, hdr⟩
  · have HE := Lib.hid (show dominates xs ys = false by
      unfold dominates
      rw [show (isDeg xs && isDeg ys) = false by rw [← Bool.not_eq_true, Bool.and_eq_true]; exact hd, Bool.false_and])
    by_cases hd1 : isDeg xs = true
    · have hd2 : isDeg ys = false := by simpa [hd1] using hd
      clear hd
      go_enter Try.func15, Try.ntmps15
      go_wp2_with fail
      refine (isDeg_spec _ _ _ _ _ h).mono ?_
      rintro e w1 ⟨rfl, d1⟩
      go_wp2_with fail
      refine (isDeg_spec _ _ _ _ _ (h'.drew d1)).mono ?_
      rintro e w2 ⟨rfl, d2⟩
      go_wp2_with fail
      go_ret
      exact ⟨ret_bool HE.out.symm, d1.trans d2⟩
    · replace hd1 : isDeg xs = false := by simpa using hd1
      clear hd
      go_enter Try.func15, Try.ntmps15
      go_wp2_with fail
      refine (isDeg_spec _ _ _ _ _ h).mono ?_
      rintro e w1 ⟨rfl, d1⟩
      go_wp2_with fail
      go_ret
      exact ⟨ret_bool HE.out.symm, d1⟩

/-- Products of the degrees at equal places. -/
def pairSum : List Int → List Int → Int
  | x :: xs, y :: ys => x * y + pairSum xs ys
  | _, _ => 0
def pairBound (a b : List Int) : Int := if isDeg a && isDeg b then pairSum a b else 0
theorem pairSum_rng : ∀ (xs ys : List Int), (∀ x ∈ xs, 1 ≤ x ∧ x ≤ 8) → (∀ y ∈ ys, 1 ≤ y ∧ y ≤ 8) → 0 ≤ pairSum xs ys ∧ pairSum xs ys ≤ 64 * xs.length
  | [], _, _, _ => by simp [pairSum]
  | _ :: _, [], _, _ => by simp [pairSum]; omega
  | x :: xs, y :: ys, h1, h2 => by
    have ih := pairSum_rng xs ys (fun z hz => h1 z (List.mem_cons_of_mem _ hz)) (fun z hz => h2 z (List.mem_cons_of_mem _ hz))
    have hx := h1 x (List.mem_cons_self ..)
    have hy := h2 y (List.mem_cons_self ..)
    have e1 : 0 ≤ x * y := Int.mul_nonneg (by omega) (by omega)
    have e2 : x * y ≤ 8 * 8 := Int.mul_le_mul hx.2 hy.2 (by omega) (by omega)
    simp only [pairSum, List.length_cons]
    omega
theorem pairSum_end (xs ys : List Int) (j : Nat) (h : xs.length ≤ j ∨ ys.length ≤ j) : pairSum (xs.drop j) (ys.drop j) = 0 := by
  rcases h with h | h
  · rw [List.drop_of_length_le h]; simp [pairSum]
  · rw [List.drop_of_length_le h]; cases xs.drop j <;> simp [pairSum]

set_option maxHeartbeats 400000 in
theorem pairBound_impl (a b : Option Addr) (n m cap cap' : Nat) (xs ys : List Int) (w : World) (h : Ints w a n xs) (h' : Ints w b m ys) :
    Calls Try.prog 8 #[.slice a n cap, .slice b m cap'] w fun e w' => e = .returned (.int .i64 (pairBound xs ys)) ∧ Drew w w' := by
  have hn := h.small
  have hm := h'.small
  by_cases hd : isDeg xs = true ∧ isDeg ys = true
  · obtain ⟨hd1, hd2⟩ := hd
    have hl1 := isDeg_len hd1
    have hr := pairSum_rng xs ys (isDeg_mem hd1) (isDeg_mem hd2)
    have HT := Lib.hid (show pairBound xs ys = pairSum xs ys by simp [pairBound, hd1, hd2])
    have hl := h.len
    have hl' := h'.len
    have hn8 : n ≤ 8 := by omega
    go_enter Try.func8, Try.ntmps8
    go_wp2_with fail
    refine (isDeg_impl _ _ _ _ _ h).mono ?_
    rintro e w' ⟨rfl, rfl⟩
    go_wp2_with fail
    refine (isDeg_impl _ _ _ _ _ h').mono ?_
    rintro e w' ⟨rfl, rfl⟩
    go_wp2_with fail
    go_loopw [5, 6] (fun s i wr => ∃ (j : Nat) (y : Int), j ≤ n ∧ i = .int .i64 j ∧ s = .int .i64 y ∧ 0 ≤ y ∧ y ≤ 64 * j ∧ Hid (pairBound xs ys = y + pairSum (xs.drop j) (ys.drop j)) ∧ Drew w wr) (fun _ i _ => n - (intOf i).toNat)
    case atStart => exact ⟨0, 0, Nat.zero_le _, rfl, rfl, by omega, by omega, by rw [Hid, HT.out]; simp, Drew.refl _⟩
    case round =>
      obtain ⟨j, y, hj, rfl, rfl, hy0, hy1, hE, hdr⟩ := hrel
      have k1 := h.drew hdr
      have k2 := h'.drew hdr
      by_cases hlt : j < n ∧ j < m
      · obtain ⟨hlt1, hlt2⟩ := hlt
        obtain ⟨b1, o1, x1, rfl, hc1, hx1, _, _⟩ := k1.get hlt1
        obtain ⟨b2, o2, x2, rfl, hc2, hx2, _, _⟩ := k2.get hlt2
        have hm1 := isDeg_mem hd1 x1 (by rw [← hx1.out]; exact getD_mem (by omega))
        have hm2 := isDeg_mem hd2 x2 (by rw [← hx2.out]; exact getD_mem (by omega))
        have HE : Hid (pairBound xs ys = y + x1 * x2 + pairSum (xs.drop (j + 1)) (ys.drop (j + 1))) := by
          rw [Hid, hE.out, k1.drop hlt1 hx1, k2.drop hlt2 hx2, pairSum]; omega
        have e1 : 0 ≤ x1 * x2 := Int.mul_nonneg (by omega) (by omega)
        have e2 : x1 * x2 ≤ 8 * 8 := Int.mul_le_mul hm1.2 hm2.2 (by omega) (by omega)
        have g1 : IntKind.i64.wrap (x1 * x2) = x1 * x2 := IntWalk.i64_in _ (by omega)
        have g2 : IntKind.i64.wrap (y + x1 * x2) = y + x1 * x2 := IntWalk.i64_in _ (by omega)
        clear hl hl' hr
        go_wp2
        go_quiet (fail)
        clear g1 g2
        go_wp2
        go_roundw
        case rel => exact ⟨j + 1, y + x1 * x2, by omega, by go_num, rfl, by omega, by omega, HE, hdr.step _⟩
        case measure => simp [intOf]; omega
      · have HE := Lib.hid (show y = pairBound xs ys by rw [hE.out, pairSum_end _ _ _ (by omega)]; omega)
        by_cases hlt1 : j < n
        · have hlt2 : ¬ j < m := by omega
          clear h h' hl hl' hr hlt
          go_wp2
          go_ret
          exact ⟨ret_int HE.out, hdr⟩
        · clear h h' hl hl' hr hlt
          go_wp2
          go_ret
          exact ⟨ret_int HE.out, hdr⟩
  · have HE := Lib.hid (show 0 = pairBound xs ys by
      unfold pairBound
      rw [show (isDeg xs && isDeg ys) = false by rw [← Bool.not_eq_true, Bool.and_eq_true]; exact hd]; rfl)
    by_cases hd1 : isDeg xs = true
    · have hd2 : isDeg ys = false := by simpa [hd1] using hd
      clear hd
      go_enter Try.func8, Try.ntmps8
      go_wp2_with fail
      refine (isDeg_impl _ _ _ _ _ h).mono ?_
      rintro e w' ⟨rfl, rfl⟩
      go_wp2_with fail
      refine (isDeg_impl _ _ _ _ _ h').mono ?_
      rintro e w' ⟨rfl, rfl⟩
      go_wp2_with fail
      go_ret
      exact ⟨ret_int HE.out, Drew.refl _⟩
    · replace hd1 : isDeg xs = false := by simpa using hd1
      clear hd
      go_enter Try.func8, Try.ntmps8
      go_wp2_with fail
      refine (isDeg_impl _ _ _ _ _ h).mono ?_
      rintro e w' ⟨rfl, rfl⟩
      go_wp2_with fail
      go_ret
      exact ⟨ret_int HE.out, Drew.refl _⟩

set_option maxHeartbeats 400000 in
theorem pairBound_spec (a b : Option Addr) (n m cap cap' : Nat) (xs ys : List Int) (w : World) (h : Ints w a n xs) (h' : Ints w b m ys) :
    Calls Try.prog 9 #[.slice a n cap, .slice b m cap'] w fun e w' => e = .returned (.int .i64 (pairBound xs ys)) ∧ Drew w w' := by
  have hn := h.small
  have hm := h'.small
  by_cases hd : isDeg xs = true ∧ isDeg ys = true
  · obtain ⟨hd1, hd2⟩ := hd
    have hl1 := isDeg_len hd1
    have hr := pairSum_rng xs ys (isDeg_mem hd1) (isDeg_mem hd2)
    have HT := Lib.hid (show pairBound xs ys = pairSum xs ys by simp [pairBound, hd1, hd2])
    have hl := h.len
    have hl' := h'.len
    have hn8 : n ≤ 8 := by omega
    go_enter Try.func9, Try.ntmps9
    go_wp2_with fail
    go_loopw [5, 6] (fun s i wr => ∃ (j : Nat) (y : Int), j ≤ n ∧ i = .int .i64 j ∧ s = .int .i64 y ∧ 0 ≤ y ∧ y ≤ 64 * j ∧ Hid (pairBound xs ys = y + pairSum (xs.drop j) (ys.drop j)) ∧ Drew w wr) (fun _ i _ => n - (intOf i).toNat)
    case atStart => exact ⟨0, 0, Nat.zero_le _, rfl, rfl, by omega, by omega, by rw [Hid, HT.out]; simp, Drew.refl _⟩
    case round =>
      obtain ⟨j, y, hj, rfl, rfl, hy0, hy1, hE, hdr⟩ := hrel
      have k1 := h.drew hdr
      have k2 := h'.drew hdr
      by_cases hlt : j < n ∧ j < m
      · obtain ⟨hlt1, hlt2⟩ := hlt
        obtain ⟨b1, o1, x1, rfl, hc1, hx1, _, _⟩ := k1.get hlt1
        obtain ⟨b2, o2, x2, rfl, hc2, hx2, _, _⟩ := k2.get hlt2
        have hm1 := isDeg_mem hd1 x1 (by rw [← hx1.out]; exact getD_mem (by omega))
        have hm2 := isDeg_mem hd2 x2 (by rw [← hx2.out]; exact getD_mem (by omega))
        have HE : Hid (pairBound xs ys = y + x1 * x2 + pairSum (xs.drop (j + 1)) (ys.drop (j + 1))) := by
          rw [Hid, hE.out, k1.drop hlt1 hx1, k2.drop hlt2 hx2, pairSum]; omega
        have e1 : 0 ≤ x1 * x2 := Int.mul_nonneg (by omega) (by omega)
        have e2 : x1 * x2 ≤ 8 * 8 := Int.mul_le_mul hm1.2 hm2.2 (by omega) (by omega)
        have g1 : IntKind.i64.wrap (x1 * x2) = x1 * x2 := IntWalk.i64_in _ (by omega)
        have g2 : IntKind.i64.wrap (y + x1 * x2) = y + x1 * x2 := IntWalk.i64_in _ (by omega)
        clear hl hl' hr
        go_wp2_with fail
        refine (isDeg_spec _ _ _ _ _ k1).mono ?_
        rintro e w3 ⟨rfl, ⟨q1, rfl⟩⟩
        go_wp2_with fail
        refine (isDeg_spec _ _ _ _ _ (k2.drew ⟨q1, rfl⟩)).mono ?_
        rintro e w4 ⟨rfl, ⟨q2, rfl⟩⟩
        go_wp2_with fail
        go_quiet (fail)
        clear g1 g2
        go_wp2
        go_roundw
        case rel => exact ⟨j + 1, y + x1 * x2, by omega, by go_num, rfl, by omega, by omega, HE, hdr.step _⟩
        case measure => simp [intOf]; omega
      · have HE := Lib.hid (show y = pairBound xs ys by rw [hE.out, pairSum_end _ _ _ (by omega)]; omega)
        by_cases hlt1 : j < n
        · have hlt2 : ¬ j < m := by omega
          clear h h' hl hl' hr hlt
          go_wp2
          go_ret
          exact ⟨ret_int HE.out, hdr⟩
        · clear h h' hl hl' hr hlt
          go_wp2
          go_ret
          exact ⟨ret_int HE.out, hdr⟩
  · have HE := Lib.hid (show 0 = pairBound xs ys by
      unfold pairBound
      rw [show (isDeg xs && isDeg ys) = false by rw [← Bool.not_eq_true, Bool.and_eq_true]; exact hd]; rfl)
    go_enter Try.func9, Try.ntmps9
    go_wp2_with fail
    go_loopw [5, 6] (fun s i wr => i = .int .i64 0 ∧ s = .int .i64 0 ∧ wr = w) (fun _ _ _ => 0)
    case atStart => exact ⟨rfl, rfl, rfl⟩
    case round =>
      obtain ⟨rfl, rfl, rfl⟩ := hrel
      by_cases hlt : 0 < n
      · by_cases hlt2 : 0 < m
        · by_cases hd1 : isDeg xs = true
          · have hd2 : isDeg ys = false := by simpa [hd1] using hd
            clear hd
            go_wp2_with fail
            refine (isDeg_spec _ _ _ _ _ h).mono ?_
            rintro e w1 ⟨rfl, d1⟩
            go_wp2_with fail
            refine (isDeg_spec _ _ _ _ _ (h'.drew d1)).mono ?_
            rintro e w2 ⟨rfl, d2⟩
            go_wp2_with fail
            go_ret
            exact ⟨ret_int HE.out, d1.trans d2⟩
          · replace hd1 : isDeg xs = false := by simpa using hd1
            clear hd
            go_wp2_with fail
            refine (isDeg_spec _ _ _ _ _ h).mono ?_
            rintro e w1 ⟨rfl, d1⟩
            go_wp2_with fail
            go_ret
            exact ⟨ret_int HE.out, d1⟩
        · clear hd
          go_wp2
          go_ret
          exact ⟨ret_int HE.out, Drew.refl _⟩
      · clear hd
        go_wp2
        go_ret
        exact ⟨ret_int HE.out, Drew.refl _⟩

end Go.Proofs.Ytehcjdbljdpmbaa

/- The laws' helpers on slices of ints, in the one form that all kinds of data share. -/
namespace Go.Proofs.Ytehcjdbljdpmbaa
open Go.RowKit
set_option linter.unusedVariables false
set_option linter.unusedSimpArgs false

theorem Own.rd {α : Type} {o : OS α} {r : RS α} (hr : Reads o r) {lo hi : Nat} {w : World} {cs : List Value} {x : α} (h : Own o lo hi w cs x) : r.rep w cs x := by
  obtain ⟨fp, h1, _⟩ := h
  exact hr.2 h1

/-- What is left of a bound behind k things, -1 if they are too many. -/
def szR (left : Int) (k : Nat) : Int := if (k : Int) ≤ left then left - k else -1
theorem szR_add {left : Int} {a b : Nat} (h : (a : Int) ≤ left) : szR left (a + b) = szR (left - a) b := by
  unfold szR
  by_cases hb : (b : Int) ≤ left - a
  · rw [if_pos (by omega), if_pos hb]; omega
  · rw [if_neg (by omega), if_neg hb]
theorem szR_no {left : Int} {a : Nat} (b : Nat) (h : ¬ (a : Int) ≤ left) : szR left (a + b) = -1 := by
  unfold szR; rw [if_neg (by omega)]
theorem szR_no0 {left : Int} {a : Nat} (h : ¬ (a : Int) ≤ left) : szR left a = -1 := by
  unfold szR; rw [if_neg h]
theorem szR_yes {left : Int} {a : Nat} (h : (a : Int) ≤ left) : szR left a = left - a := by
  unfold szR; rw [if_pos h]
/-- It is -1, or the bound holds. -/
theorem szR_cases (left : Int) (k : Nat) : szR left k = -1 ∧ ¬ (k : Int) ≤ left ∨ szR left k = left - k ∧ (k : Int) ≤ left := by
  unfold szR
  by_cases h : (k : Int) ≤ left
  · exact .inr ⟨if_pos h, h⟩
  · exact .inl ⟨if_neg h, h⟩

theorem rI_open {w : World} {v : Value} {xs : List Int} (h : rI.rep w [v] xs) : ∃ a cap, v = .slice a xs.length cap ∧ xs.length ≤ cap ∧ cap ≤ 9223372036854775807 ∧ Ints w a xs.length xs := by
  obtain ⟨a, n, cap, hv, h1, h2, hs⟩ := h
  simp at hv
  have := hs.len
  subst this
  exact ⟨a, cap, hv, h1, h2, hs.ints⟩
theorem rI_mk {w : World} {a : Option Addr} {n cap : Nat} {xs : List Int} (h : Ints w a n xs) (h1 : n ≤ cap) (h2 : cap ≤ 9223372036854775807) : rI.rep w [.slice a n cap] xs := ⟨a, n, cap, rfl, h1, h2, h.sl⟩

theorem rI_form {w : World} {cs : List Value} {xs : List Int} (h : rI.rep w cs xs) : ∃ b n c, cs = [.slice b n c] := by
  obtain ⟨a, n, cap, hv, _⟩ := h
  exact ⟨_, _, _, hv⟩
theorem oI_form1 {lo hi : Nat} {w : World} {v : Value} {xs : List Int} (h : Own oI lo hi w [v] xs) : ∃ b n c, v = .slice b n c := by
  obtain ⟨b, n, c, hv⟩ := rI_form (h.rd reads_I)
  simp at hv
  exact ⟨_, _, _, hv⟩
/-- A store below what is owned. -/
theorem Own.setOut {α : Type} {o : OS α} {lo hi : Nat} {w w' : World} {cs : List Value} {x : α} (h : Own o lo hi w cs x) {p : Addr} {u : Value} (hw : w' = w.setCell p u) (hp : p.block < lo) : Own o lo hi w' cs x := by
  obtain ⟨fp, h1, h2, h3⟩ := h
  exact ⟨fp, o.frame h1 (fun k hk => by rw [hw]; exact Below.heap_setCell _ _ _ _ (by have := h3 k hk; omega)), h2, h3⟩
theorem bytes_ne {s t : ByteArray} (h : s ≠ t) : (s.toList == t.toList) = false := by
  rw [beq_eq_false_iff_ne]
  intro e
  apply h
  rw [ByteArray.toList_eq, ByteArray.toList_eq] at e
  cases s; cases t
  simp at e
  simp [e]

def bulk_I (xs : List Int) : Nat := xs.length
def cnt_I (xs : List Int) : Nat := xs.length
theorem cnt_le_I (xs : List Int) : cnt_I xs ≤ 2 * bulk_I xs := by unfold cnt_I bulk_I; omega
def mk_I (k : Int) (xs : List Int) : List Int := marks k xs.length

end Go.Proofs.Ytehcjdbljdpmbaa

/- The bound of Cauchy and Schwarz: the root of the product of the second norms. -/
namespace Go.Proofs.Ytehcjdbljdpmbaa
open Go.RowKit
set_option linter.unusedVariables false
set_option linter.unusedSimpArgs false

noncomputable def cauchy (xs ys : List Int) : Int := if isDeg xs && isDeg ys then rootOf (normOf xs 2 * normOf ys 2) 2 else 0

set_option maxHeartbeats 400000 in
theorem cauchy_impl (a b : Option Addr) (n m cap cap' : Nat) (xs ys : List Int) (w : World) (h : Ints w a n xs) (h' : Ints w b m ys) :
    Calls Try.prog 10 #[.slice a n cap, .slice b m cap'] w fun e w' => e = .returned (.int .i64 (cauchy xs ys)) ∧ w = w' := by
  have r1 := norm_rng xs 2
  have r2 := norm_rng ys 2
  have e1 : 0 ≤ normOf xs 2 * normOf ys 2 := Int.mul_nonneg (by omega) (by omega)
  have e2 : normOf xs 2 * normOf ys 2 ≤ 4096 * 4096 := Int.mul_le_mul r1.2 r2.2 (by omega) (by omega)
  have g1 : IntKind.i64.wrap (normOf xs 2 * normOf ys 2) = normOf xs 2 * normOf ys 2 := IntWalk.i64_in _ (by omega)
  have C1 := Lib.hid (norm_impl a n cap xs 2 w h)
  have C2 := Lib.hid (norm_impl b m cap' ys 2 w h')
  by_cases hd1 : isDeg xs = true
  case neg =>
    replace hd1 : isDeg xs = false := by simpa using hd1
    have HE := Lib.hid (show 0 = cauchy xs ys by simp [cauchy, hd1])
    go_enter Try.func10, Try.ntmps10
    go_wp2_with fail
    refine (isDeg_impl _ _ _ _ _ h).mono ?_
    rintro e w' ⟨rfl, rfl⟩
    go_wp2_with fail
    go_ret
    exact ⟨ret_int HE.out, rfl⟩
  by_cases hd2 : isDeg ys = true
  case neg =>
    replace hd2 : isDeg ys = false := by simpa using hd2
    have HE := Lib.hid (show 0 = cauchy xs ys by simp [cauchy, hd2])
    go_enter Try.func10, Try.ntmps10
    go_wp2_with fail
    refine (isDeg_impl _ _ _ _ _ h).mono ?_
    rintro e w' ⟨rfl, rfl⟩
    go_wp2_with fail
    refine (isDeg_impl _ _ _ _ _ h').mono ?_
    rintro e w' ⟨rfl, rfl⟩
    go_wp2_with fail
    go_ret
    exact ⟨ret_int HE.out, rfl⟩
  have HE := Lib.hid (show rootOf (normOf xs 2 * normOf ys 2) 2 = cauchy xs ys by simp [cauchy, hd1, hd2])
  obtain ⟨p, hp⟩ : ∃ p, p = normOf xs 2 := ⟨_, rfl⟩
  obtain ⟨q, hq⟩ : ∃ q, q = normOf ys 2 := ⟨_, rfl⟩
  rw [← hp] at C1 HE g1
  rw [← hq] at C2 HE g1
  clear hp hq r1 r2 e1 e2
  go_enter Try.func10, Try.ntmps10
  go_wp2_with fail
  refine (isDeg_impl _ _ _ _ _ h).mono ?_
  rintro e w' ⟨rfl, rfl⟩
  go_wp2_with fail
  refine (isDeg_impl _ _ _ _ _ h').mono ?_
  rintro e w' ⟨rfl, rfl⟩
  go_wp2_with fail
  refine C1.out.mono ?_
  rintro e w' ⟨rfl, rfl⟩
  go_wp2_with fail
  refine C2.out.mono ?_
  rintro e w' ⟨rfl, rfl⟩
  go_wp2_with fail
  refine (root_impl _ _ _).mono ?_
  rintro e w' ⟨rfl, rfl⟩
  go_wp2_with fail
  go_ret
  exact ⟨ret_int HE.out, rfl⟩

end Go.Proofs.Ytehcjdbljdpmbaa
