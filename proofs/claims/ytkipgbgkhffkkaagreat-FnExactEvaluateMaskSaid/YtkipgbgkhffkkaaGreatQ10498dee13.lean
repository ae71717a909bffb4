/- Texts joined for one claim: Base, Bits, Shelf, Cmp, Deg, Has, Help, Open, QuietB, Shape, App. -/
import Derived.Test.YtkipgbgkhffkkaaGreatProg
import Derived.Test.YtkipgbgkhffkkaaGreatRows
import Derived.WalkKit
import Derived.WalkSpells
import Derived.WalkLawsBesides
import Derived.Lib.Hide
import Derived.Deep.QuietTactic
import Derived.BigQuiet
import Derived.IntWalk
import Derived.Shelf.Strings.Builder1
import Derived.Shelf.Strings.Builder2
import Derived.Shelf.Small.Bits
import Derived.Shelf.Strconv.Itoa0
import Derived.Shelf.Bits.Mul64
import Derived.Ground.Names2Prog
import Derived.Shelf.Slices.SearchI
import Derived.Ground.SlsfProg
import Derived.Shelf.SlSortCmp.Insertion
import Derived.Shelf.SlSortCmp.SiftDown1
import Derived.Shelf.SlSortCmp.HeapSort1
import Derived.Shelf.SlSortCmp.Insertion1
import Derived.Shelf.SlSortCmp.Median1
import Derived.Shelf.SlSortCmp.Pivot1
import Derived.Shelf.SlSortCmp.ReverseRange1
import Derived.Shelf.SlSortCmp.PartialInsertion1
import Derived.Shelf.SlSortCmp.PartitionEqual1
import Derived.Shelf.SlSortCmp.Partition1
import Derived.Shelf.SlSortCmp.Pdq1
import Derived.Shelf.SlSortCmp.Whole1
import Derived.Shelf.SlSortCmp.NoneTotal
import Derived.ProofKit
import Derived.OpenShut
import Derived.ShutString
import Derived.ChangeOld
import Derived.Below
import Derived.Deep.Slices
import Derived.Lib.SmallJoins
import Derived.Lib.QuietBelow

/- Plain words that the contracts share: how slices of ints read in a world, and how a slice of the call's own grows. -/
namespace Go.Proofs.YtkipgbgkhffkkaaGreat
open Go.RowKit
set_option linter.unusedVariables false
set_option linter.unusedSimpArgs false

theorem ret_bool {a b : Bool} (h : a = b) : Ending.returned (.bool a) = .returned (.bool b) := by rw [h]
theorem ret_int {k : IntKind} {a b : Int} (h : a = b) : Ending.returned (.int k a) = .returned (.int k b) := by rw [h]
theorem drop_cons (xs : List Int) (k : Nat) (h : k < xs.length) : xs.drop k = xs.getD k 0 :: xs.drop (k + 1) := by
  rw [List.drop_eq_getElem_cons h, List.getD_eq_getElem?_getD, List.getElem?_eq_getElem h]; rfl
theorem take_snoc (xs : List Int) (k : Nat) (h : k < xs.length) : xs.take (k + 1) = xs.take k ++ [xs.getD k 0] := by
  rw [List.take_succ_eq_append_getElem h, List.getD_eq_getElem?_getD, List.getElem?_eq_getElem h]; rfl

/-- int's range. -/
def I64 (x : Int) : Prop := -9223372036854775808 ≤ x ∧ x ≤ 9223372036854775807
def AllI64 (xs : List Int) : Prop := ∀ x ∈ xs, I64 x

/-- w' is w after some draws: nothing else has turned. -/
def Drew (w w' : World) : Prop := ∃ m, w' = w.drewN m
theorem Drew.refl (w : World) : Drew w w := ⟨0, rfl⟩
theorem Drew.step {w w' : World} (h : Drew w w') (n : Nat) : Drew w (w'.drewN n) := by
  obtain ⟨m, rfl⟩ := h
  exact ⟨m + n, World.drewN_drewN _ _ _⟩
theorem Drew.trans {a b c : World} (h : Drew a b) (k : Drew b c) : Drew a c := by
  obtain ⟨n, rfl⟩ := k
  exact h.step n
theorem Drew.cell {w w' : World} (h : Drew w w') (p : Addr) : w'.cell? p = w.cell? p := by obtain ⟨m, rfl⟩ := h; rfl
theorem Drew.below {w w' : World} (h : Drew w w') (B : Nat) : Below B w w' := by obtain ⟨m, rfl⟩ := h; exact ⟨rfl, rfl, rfl, Nat.le_refl _, fun _ _ => rfl⟩
theorem Drew.size {w w' : World} (h : Drew w w') : w'.heap.size = w.heap.size := by obtain ⟨m, rfl⟩ := h; rfl
/-- A contract that leaves the world alone, met inside a region that only reads. -/
theorem quiet_same {P : Program} {f : FuncId} {args : Array Value} {w : World} {n : Nat} {v : Value} (h : Calls P f args (w.drewN n) fun e w' => e = .returned v ∧ w.drewN n = w') :
    Calls P f args (w.drewN n) fun e w'' => e = .returned v ∧ ∃ m, w'' = w.drewN m :=
  h.mono fun _ _ ⟨he, hm⟩ => ⟨he, n, hm.symm⟩
/-- A contract that only draws, met inside a region that only reads. -/
theorem quiet_drew {P : Program} {f : FuncId} {args : Array Value} {w : World} {n : Nat} {v : Value} (h : Calls P f args (w.drewN n) fun e w' => e = .returned v ∧ Drew (w.drewN n) w') :
    Calls P f args (w.drewN n) fun e w'' => e = .returned v ∧ ∃ m, w'' = w.drewN m :=
  h.mono fun _ _ ⟨he, hm⟩ => ⟨he, (Drew.step (Drew.refl w) n).trans hm⟩

/-- One call more: what was there when the first began is still there. -/
theorem on {w w1 w2 : World} (h : Below w.heap.size w w1) (k : Below w1.heap.size w1 w2) : Below w.heap.size w w2 :=
  h.trans (k.mono h.size)
theorem onD {B : Nat} {w w1 w2 : World} (h : Below B w w1) (k : Drew w1 w2) : Below B w w2 := h.trans (k.below _)
/-- What was there reads as it did: two rules for the walk. -/
theorem bcell {W w1 : World} (hb : Below W.heap.size W w1) : (∀ b o, b < W.heap.size → w1.cell? ⟨b, o, none⟩ = W.cell? ⟨b, o, none⟩) ∧ (∀ b o, b < W.heap.size → w1.frozen? ⟨b, o, none⟩ = W.frozen? ⟨b, o, none⟩) :=
  ⟨fun b o h => hb.cell (p := ⟨b, o, none⟩) h, fun b o h => hb.frozen (p := ⟨b, o, none⟩) h⟩
/-- A cell of a block that has just been laid, in whatever world behind it. -/
theorem box_cell {w wr : World} {cs : Array Value} {T : TypeId} {i : Nat} {v : Value} (hb : Below (w.heap.size + 1) (w.alloc (.cells cs T)) wr) (hv : cs[i]? = some v) : wr.cell? ⟨w.heap.size, i, none⟩ = some v := by
  rw [hb.cell (p := ⟨w.heap.size, i, none⟩) (Nat.lt_succ_self _)]
  have h : (w.alloc (.cells cs T)).heap[w.heap.size]? = some (.cells cs T) := heap_alloc_new w _
  simp only [World.cell?, h]
  simpa using hv
/-- What lies in memory is below the heap's size. -/
theorem cell_lt {w : World} {p : Addr} {v : Value} (h : w.cell? p = some v) : p.block < w.heap.size := World.block_lt_of_cell? w p h

/-- The slice .slice a n cap reads in w as the list xs of ints. -/
structure Ints (w : World) (a : Option Addr) (n : Nat) (xs : List Int) : Prop where
  len : xs.length = n
  small : n ≤ 9223372036854775807
  cell : ∀ i, i < n → ∃ b off, a = some ⟨b, off, none⟩ ∧ w.cell? ⟨b, off + i, none⟩ = some (.int .i64 (xs.getD i 0))
  rng : AllI64 xs

theorem Ints.drew {w w' : World} {a : Option Addr} {n : Nat} {xs : List Int} (h : Ints w a n xs) (hd : Drew w w') : Ints w' a n xs := by
  obtain ⟨m, rfl⟩ := hd
  exact ⟨h.len, h.small, h.cell, h.rng⟩
theorem Ints.below {w w' : World} {a : Option Addr} {n : Nat} {xs : List Int} (h : Ints w a n xs) (hb : Below w.heap.size w w') : Ints w' a n xs :=
  ⟨h.len, h.small, fun i hi => by
    obtain ⟨b, off, ha, hc⟩ := h.cell i hi
    exact ⟨b, off, ha, by rw [hb.cell (p := ⟨b, off + i, none⟩) (cell_lt hc)]; exact hc⟩, h.rng⟩
theorem Ints.drewN {w : World} {a : Option Addr} {n : Nat} {xs : List Int} (h : Ints w a n xs) (m : Nat) : Ints (w.drewN m) a n xs := h.drew ⟨m, rfl⟩
theorem Ints.get {w : World} {a : Option Addr} {n : Nat} {xs : List Int} (h : Ints w a n xs) {k : Nat} (hk : k < n) :
    ∃ b off x, a = some ⟨b, off, none⟩ ∧ w.cell? ⟨b, off + k, none⟩ = some (.int .i64 x) ∧ Hid (xs.getD k 0 = x) ∧ -9223372036854775808 ≤ x ∧ x ≤ 9223372036854775807 := by
  obtain ⟨b, off, ha, hc⟩ := h.cell k hk
  refine ⟨b, off, _, ha, hc, rfl, ?_⟩
  have hk' : k < xs.length := by have := h.len; omega
  have : xs.getD k 0 ∈ xs := by
    rw [List.getD_eq_getElem?_getD, List.getElem?_eq_getElem hk']; exact List.getElem_mem hk'
  exact h.rng _ this
theorem Ints.drop {w : World} {a : Option Addr} {n : Nat} {xs : List Int} (h : Ints w a n xs) {k : Nat} {x : Int} (hk : k < n) (hx : Hid (xs.getD k 0 = x)) : xs.drop k = x :: xs.drop (k + 1) := by
  rw [drop_cons xs k (by rw [h.len]; exact hk), hx.out]

/-- v is a slice of ints of the call's own (its block from B on), and reads as xs. -/
structure OwnInts (B : Nat) (w : World) (v : Value) (n : Nat) (xs : List Int) : Prop where
  len : xs.length = n
  row : w.ownsRow B 3 1 v n (xs.map (Value.int .i64))
  rng : AllI64 xs

/-- v holds a slice value at the head of a block of its own, or nil. -/
theorem own_form {w : World} {B e size : Nat} {v : Value} {n : Nat} {us : List Value} (h : w.ownsRow B e size v n us) :
    ∃ a cap, v = .slice a n cap ∧ n ≤ 9223372036854775807 ∧ (∀ x, a = some x → B ≤ x.block ∧ x.block < w.heap.size) := by
  rcases h.2 with ⟨rfl, rfl⟩ | ⟨g, cap, cur, rfl, hB, hg, hn, hc, _⟩
  · exact ⟨none, 0, rfl, by omega, by simp⟩
  · refine ⟨_, cap, rfl, by unfold maxLen at hc; omega, ?_⟩
    rintro x hx
    simp at hx
    subst hx
    exact ⟨hB, (Array.getElem?_eq_some_iff.1 hg).1⟩

theorem own_cells {w : World} {B e : Nat} {a : Option Addr} {cap : Nat} {n : Nat} {us : List Value} (h : w.ownsRow B e 1 (.slice a n cap) n us) (i : Nat) (hi : i < n) :
    ∃ g, a = some ⟨g, 0, none⟩ ∧ B ≤ g ∧ w.cell? ⟨g, i, none⟩ = us[i]? ∧ w.frozen? ⟨g, i, none⟩ = false := by
  have h' := h
  rcases h'.2 with ⟨hv, rfl⟩ | ⟨g, c, cur, hv, hB, hg, hn, hc, _⟩
  · omega
  · simp at hv
    obtain ⟨rfl, rfl⟩ := hv
    refine ⟨g, rfl, hB, ?_, h.frozenAt i⟩
    exact h.cellAt i (by omega)

theorem OwnInts.form {B : Nat} {w : World} {v : Value} {n : Nat} {xs : List Int} (h : OwnInts B w v n xs) : ∃ a cap, v = .slice a n cap ∧ Ints w a n xs := by
  obtain ⟨a, cap, rfl, hn, _⟩ := own_form h.row
  refine ⟨a, cap, rfl, h.len, hn, fun i hi => ?_, h.rng⟩
  obtain ⟨g, rfl, _, hc, _⟩ := own_cells h.row i hi
  refine ⟨g, 0, rfl, ?_⟩
  rw [Nat.zero_add, hc, List.getElem?_map, List.getD_eq_getElem?_getD, List.getElem?_eq_getElem (by rw [h.len]; exact hi)]
  rfl
theorem OwnInts.ints {B : Nat} {w : World} {a : Option Addr} {n cap : Nat} {xs : List Int} (h : OwnInts B w (.slice a n cap) n xs) : Ints w a n xs := by
  obtain ⟨a', cap', hv, hi⟩ := h.form
  simp at hv
  obtain ⟨rfl, rfl⟩ := hv
  exact hi
theorem OwnInts.capn {B : Nat} {w : World} {a : Option Addr} {n cap : Nat} {xs : List Int} (h : OwnInts B w (.slice a n cap) n xs) : n ≤ cap ∧ cap ≤ 9223372036854775807 := by
  rcases h.row.2 with ⟨hv, rfl⟩ | ⟨g, c, cur, hv, hB, hg, hn, hc, _⟩
  · simp at hv; omega
  · simp at hv
    obtain ⟨rfl, rfl⟩ := hv
    exact ⟨hn, by unfold maxLen at hc; omega⟩
/-- What the call owns stays when only blocks from some number on have turned, or new ones have come. -/
theorem own_below {w w' : World} {B C e size : Nat} {v : Value} {n : Nat} {us : List Value} (h : w.ownsRow B e size v n us) (hb : Below C w w') (hC : w.heap.size ≤ C) : w'.ownsRow B e size v n us := by
  refine ⟨h.1, ?_⟩
  rcases h.2 with h2 | ⟨g, cap, cur, rfl, hB, hg, r⟩
  · exact .inl h2
  · exact .inr ⟨g, cap, cur, rfl, hB, by rw [hb.block g (by have := (Array.getElem?_eq_some_iff.1 hg).1; omega)]; exact hg, r⟩
theorem OwnInts.below {B : Nat} {w w' : World} {v : Value} {n : Nat} {xs : List Int} (h : OwnInts B w v n xs) (hb : Below w.heap.size w w') : OwnInts B w' v n xs :=
  ⟨h.len, own_below h.row hb (Nat.le_refl _), h.rng⟩
theorem own_base {w : World} {B B' e size : Nat} {v : Value} {n : Nat} {us : List Value} (h : w.ownsRow B e size v n us) (hB : B' ≤ B) : w.ownsRow B' e size v n us := by
  refine ⟨h.1, ?_⟩
  rcases h.2 with h2 | ⟨g, cap, cur, rfl, hg, r⟩
  · exact .inl h2
  · exact .inr ⟨g, cap, cur, rfl, by omega, r⟩
theorem OwnInts.base {B B' : Nat} {w : World} {v : Value} {n : Nat} {xs : List Int} (h : OwnInts B w v n xs) (hB : B' ≤ B) : OwnInts B' w v n xs :=
  ⟨h.len, own_base h.row hB, h.rng⟩
theorem OwnInts.setLow {B : Nat} {w : World} {v : Value} {n : Nat} {xs : List Int} (h : OwnInts B w v n xs) {p : Addr} (hp : p.block < B) (u : Value) : OwnInts B (w.setCell p u) v n xs :=
  ⟨h.len, ownsRow_setCell_below h.row hp u, h.rng⟩
theorem OwnInts.nil (B : Nat) (w : World) : OwnInts B w (.slice none 0 0) 0 [] := ⟨rfl, World.ownsRow_nil _ _ _ _, by intro x hx; cases hx⟩

/-- Between w and w' at most blocks from lo up to hi have turned; none has come. -/
structure Kept (lo hi : Nat) (w w' : World) : Prop where
  os : w'.os = w.os
  tape : w'.tape = w.tape
  output : w'.output = w.output
  size : w'.heap.size = w.heap.size
  block : ∀ k, (k < lo ∨ hi ≤ k) → w'.heap[k]? = w.heap[k]?
theorem Kept.refl (lo hi : Nat) (w : World) : Kept lo hi w w := ⟨rfl, rfl, rfl, rfl, fun _ _ => rfl⟩
theorem Kept.trans {lo hi : Nat} {a b c : World} (h : Kept lo hi a b) (k : Kept lo hi b c) : Kept lo hi a c :=
  ⟨k.os.trans h.os, k.tape.trans h.tape, k.output.trans h.output, k.size.trans h.size, fun i hi => (k.block i hi).trans (h.block i hi)⟩
theorem Kept.mono {lo hi lo' hi' : Nat} {w w' : World} (h : Kept lo hi w w') (h1 : lo' ≤ lo) (h2 : hi ≤ hi') : Kept lo' hi' w w' :=
  ⟨h.os, h.tape, h.output, h.size, fun k hk => h.block k (by omega)⟩
theorem Kept.below {lo hi : Nat} {w w' : World} (h : Kept lo hi w w') : Below lo w w' := ⟨h.os, h.tape, h.output, by rw [h.size]; exact Nat.le_refl _, fun k hk => h.block k (.inl hk)⟩
theorem Kept.setCell {lo hi : Nat} {a w : World} (h : Kept lo hi a w) {p : Addr} (h1 : lo ≤ p.block) (h2 : p.block < hi) (u : Value) : Kept lo hi a (w.setCell p u) :=
  h.trans ⟨rfl, rfl, rfl, by simp [World.setCell], fun k hk => Below.heap_setCell _ _ _ _ (by omega)⟩
theorem Kept.drew {lo hi : Nat} {a w w' : World} (h : Kept lo hi a w) (hd : Drew w w') : Kept lo hi a w' := by
  obtain ⟨m, rfl⟩ := hd
  exact h.trans ⟨rfl, rfl, rfl, rfl, fun _ _ => rfl⟩
/-- The block of a slice value. -/
def blk (v : Value) : Option Nat := v.ownBlock
/-- What is owned outside the blocks that turned stays. -/
theorem own_kept {lo hi : Nat} {w w' : World} {B e size : Nat} {v : Value} {n : Nat} {us : List Value} (h : w.ownsRow B e size v n us) (hk : Kept lo hi w w') (ho : ∀ k, v.ownBlock = some k → k < lo ∨ hi ≤ k) : w'.ownsRow B e size v n us := by
  refine ⟨h.1, ?_⟩
  rcases h.2 with h2 | ⟨g, cap, cur, rfl, hB, hg, r⟩
  · exact .inl h2
  · exact .inr ⟨g, cap, cur, rfl, hB, by rw [hk.block g (ho g rfl)]; exact hg, r⟩
theorem OwnInts.kept {lo hi B : Nat} {w w' : World} {v : Value} {n : Nat} {xs : List Int} (h : OwnInts B w v n xs) (hk : Kept lo hi w w') (ho : ∀ k, v.ownBlock = some k → k < lo ∨ hi ≤ k) : OwnInts B w' v n xs :=
  ⟨h.len, own_kept h.row hk ho, h.rng⟩
theorem Ints.kept {lo hi : Nat} {w w' : World} {a : Option Addr} {n : Nat} {xs : List Int} (h : Ints w a n xs) (hk : Kept lo hi w w') (ho : ∀ x, a = some x → x.block < lo ∨ hi ≤ x.block) : Ints w' a n xs :=
  ⟨h.len, h.small, fun i hi => by
    obtain ⟨b, off, ha, hc⟩ := h.cell i hi
    refine ⟨b, off, ha, ?_⟩
    rw [World.cell?_of_block (w := w) (a := ⟨b, off + i, none⟩) (hk.block b (ho _ ha))]; exact hc, h.rng⟩

theorem infoInt : (Tryz.prog.info? 3).map (fun i => (i.zero, i.size, i.bytes)) = some (some (.int .i64 0), 1, 8) := by kernel_rfl

theorem grown_below {B : Nat} {w0 w w' : World} {row : Option Nat} (h : Below B w0 w) (hB : B ≤ w.heap.size) (hg : w.grownBy w' row) (hr : ∀ k, row = some k → B ≤ k) : Below B w0 w' := h.grown hg hB hr

/-- 'out = append(out, x)' where x has just been laid in a cell of its own: out grows by one element. -/
theorem wpList_app1 {B : Nat} {w0 W : World} {ops : Array Oper} {rest : List Oper} {o : Oper} {a : Act} {Q : Exit → Act → World → Prop}
    (s x : Operand) (v : Value) (n : Nat) (xs : List Int) (u : Int)
    (hown : OwnInts B W v n xs) (hb : Below B w0 W) (hB : B ≤ W.heap.size) (hu : I64 u) (hn : n ≤ 1000000000000)
    (hgd : o.guard = none) (ho : o.op = .call { callee := .builtin .append, args := #[s, x], argTypes := #[30, 30] })
    (hs : a.eval s = v) (hx : a.eval x = .slice (some ⟨W.heap.size, 0, none⟩) 1 1)
    (h : ∀ v' w', OwnInts B w' v' (n + 1) (xs ++ [u]) → Below B w0 w' → B ≤ w'.heap.size → wpList Tryz.prog ops Q rest (a.put o.dst v') w') :
    wpList Tryz.prog ops Q (o :: rest) a (W.alloc (.cells #[.int .i64 u] 3)) := by
  obtain ⟨i, hi, hz0, hz1, hz2⟩ := info_parts infoInt
  refine wpList_append_own _ hgd s x 30 ho B 3 i (.int .i64 0) 1 8 Tryz.underlying30 hi hz0 hz1 hz2 rfl (by decide) v n (xs.map (Value.int .i64)) hs (hown.row.alloc _)
    ⟨W.heap.size, 0, none⟩ 1 1 [.int .i64 u] hx rfl (cell_one_new _ _ _) (by intro z hz; simp at hz; subst hz; rfl) (by unfold maxLen; omega) (by omega) (by simp; omega) ?_
  intro v' w' h1 h2 _
  have hb' : Below B w0 w' := (hb.alloc hB _).grown h2 (by simp; omega) (fun k hk => (hown.row.lt k hk).1)
  refine h v' w' ⟨by simp [hown.len], by simpa using h1, ?_⟩ hb' ?_
  · intro z hz
    rcases List.mem_append.1 hz with hz | hz
    · exact hown.rng z hz
    · simp at hz; subst hz; exact hu
  · have := h2.size; simp at this; omega

/-- 'make([]int, n)'. -/
theorem wpList_mk {W : World} {ops : Array Oper} {rest : List Oper} {o : Oper} {a : Act} {Q : Exit → Act → World → Prop} (l c : Operand) (n : Nat) (hn : n ≤ 1000000000000)
    (hgd : o.guard = none) (ho : o.op = Op.makeSlice 30 l c) (hl : a.eval l = .int .i64 n) (hc : a.eval c = .int .i64 n)
    (h : ∀ w', w'.ownsRow W.heap.size 3 1 (.slice (some ⟨W.heap.size, 0, none⟩) n n) n ((List.replicate n 0).map (Value.int .i64)) → Below W.heap.size W w' → W.heap.size < w'.heap.size →
      wpList Tryz.prog ops Q rest (a.put o.dst (.slice (some ⟨W.heap.size, 0, none⟩) n n)) w') :
    wpList Tryz.prog ops Q (o :: rest) a W := by
  obtain ⟨i, hi, hz0, hz1, hz2⟩ := info_parts infoInt
  refine wpList_make_full W hgd l c 30 ho W.heap.size 3 i (.int .i64 0) 1 Tryz.underlying30 hi hz0 hz1 .i64 .i64 n n n hl hc rfl rfl (by rw [hz2]; omega) (by unfold maxLen; omega) (Nat.le_refl _) ?_
  intro w1 hown hgrow
  have hb1 : Below W.heap.size W w1 := (Below.refl _ _).grown hgrow (Nat.le_refl _) (by intro k hk; cases hk)
  refine h w1 ?_ hb1 ((hown.lt W.heap.size rfl).2)
  have e : (List.replicate n (0 : Int)).map (Value.int .i64) = (madeCells (Value.int .i64 0).cells (n * 1)).toList := by
    rw [show (Value.int .i64 0).cells = #[.int .i64 0] from rfl, toList_madeCells_one]; simp
  rw [e]; exact hown

/-- '[]int{}': an empty slice of the call's own. -/
theorem own_empty {B : Nat} {W : World} (hB : B ≤ W.heap.size) : OwnInts B (W.alloc (.cells #[] 3)) (.slice (some ⟨W.heap.size, 0, none⟩) 0 0) 0 [] :=
  ⟨rfl, World.ownsRow_made W #[] 0 hB (by unfold maxLen; omega) rfl, by intro x hx; cases hx⟩

end Go.Proofs.YtkipgbgkhffkkaaGreat

/- Plain facts on the bits of small numbers. -/
namespace Go.Proofs.YtkipgbgkhffkkaaGreat
open Go.RowKit
set_option linter.unusedVariables false
set_option linter.unusedSimpArgs false

theorem bits_and_nat (a b : Nat) (ha : a < 9223372036854775808) (hb : b < 9223372036854775808) : bits .and .i64 (a : Int) (b : Int) = ((a &&& b : Nat) : Int) := by
  have hx : a &&& b < 2 ^ 63 := Nat.and_lt_two_pow _ (by omega)
  have h1 : (BitVec.ofInt 64 (a : Int)).toNat = a := by
    rw [BitVec.ofInt_natCast, BitVec.toNat_ofNat]; exact Nat.mod_eq_of_lt (by omega)
  have h2 : (BitVec.ofInt 64 (b : Int)).toNat = b := by
    rw [BitVec.ofInt_natCast, BitVec.toNat_ofNat]; exact Nat.mod_eq_of_lt (by omega)
  show IntKind.i64.wrap ((BitVec.ofInt 64 (a : Int) &&& BitVec.ofInt 64 (b : Int)).toNat : Int) = _
  rw [BitVec.toNat_and, h1, h2, IntWalk.i64_in _ (by omega)]
theorem bits_or_nat (a b : Nat) (ha : a < 9223372036854775808) (hb : b < 9223372036854775808) : bits .or .i64 (a : Int) (b : Int) = ((a ||| b : Nat) : Int) := by
  have hx : a ||| b < 2 ^ 63 := Nat.or_lt_two_pow (by omega) (by omega)
  have h1 : (BitVec.ofInt 64 (a : Int)).toNat = a := by
    rw [BitVec.ofInt_natCast, BitVec.toNat_ofNat]; exact Nat.mod_eq_of_lt (by omega)
  have h2 : (BitVec.ofInt 64 (b : Int)).toNat = b := by
    rw [BitVec.ofInt_natCast, BitVec.toNat_ofNat]; exact Nat.mod_eq_of_lt (by omega)
  show IntKind.i64.wrap ((BitVec.ofInt 64 (a : Int) ||| BitVec.ofInt 64 (b : Int)).toNat : Int) = _
  rw [BitVec.toNat_or, h1, h2, IntWalk.i64_in _ (by omega)]

/-- Whether bit j of K is set. -/
def bitAt (K j : Nat) : Bool := K / 2 ^ j % 2 == 1
theorem bitAt_testBit (K j : Nat) : bitAt K j = K.testBit j := by
  unfold bitAt Nat.testBit
  rw [Nat.shiftRight_eq_div_pow, Nat.and_comm, Nat.and_one_is_mod]
  rcases (by omega : K / 2 ^ j % 2 = 0 ∨ K / 2 ^ j % 2 = 1) with h | h <;> simp [h]
/-- Go's 'x >> j & 1 == 1'. -/
theorem bit_test (K j : Nat) (hK : K < 9223372036854775808) : (bits BinOp.and IntKind.i64 ((K : Int) / 2 ^ j) 1 == 1) = bitAt K j := by
  have e : ((K : Int) / 2 ^ j) = ((K / 2 ^ j : Nat) : Int) := by simp
  have hb := bits_and_nat (K / 2 ^ j) 1 (by have := Nat.div_le_self K (2 ^ j); omega) (by omega)
  rw [e]
  have hb' : bits BinOp.and IntKind.i64 ((K / 2 ^ j : Nat) : Int) 1 = ((K / 2 ^ j % 2 : Nat) : Int) := by
    rw [← Nat.and_one_is_mod]; exact hb
  rw [hb']
  unfold bitAt
  rcases (by omega : K / 2 ^ j % 2 = 0 ∨ K / 2 ^ j % 2 = 1) with h | h <;> simp [h]
/-- Go's 'x >> j & 1 == 0'. -/
theorem bit_test0 (K j : Nat) (hK : K < 9223372036854775808) : (bits BinOp.and IntKind.i64 ((K : Int) / 2 ^ j) 1 == 0) = !bitAt K j := by
  have h := bit_test K j hK
  have e : ((K : Int) / 2 ^ j) = ((K / 2 ^ j : Nat) : Int) := by simp
  have hb := bits_and_nat (K / 2 ^ j) 1 (by have := Nat.div_le_self K (2 ^ j); omega) (by omega)
  have hb' : bits BinOp.and IntKind.i64 ((K / 2 ^ j : Nat) : Int) 1 = ((K / 2 ^ j % 2 : Nat) : Int) := by
    rw [← Nat.and_one_is_mod]; exact hb
  rw [e, hb']
  unfold bitAt
  rcases (by omega : K / 2 ^ j % 2 = 0 ∨ K / 2 ^ j % 2 = 1) with h | h <;> simp [h]

/-- The set bits of K below m, ascending. -/
def bitsTo (K : Nat) : Nat → List Int
  | 0 => []
  | m + 1 => bitsTo K m ++ (if bitAt K m then [(m : Int)] else [])
theorem bitsTo_yes {K m : Nat} (h : bitAt K m = true) : bitsTo K (m + 1) = bitsTo K m ++ [(m : Int)] := by simp [bitsTo, h]
theorem bitsTo_no {K m : Nat} (h : bitAt K m = false) : bitsTo K (m + 1) = bitsTo K m := by simp [bitsTo, h]
theorem bitsTo_len (K : Nat) : ∀ m, (bitsTo K m).length ≤ m
  | 0 => by simp [bitsTo]
  | m + 1 => by
    have := bitsTo_len K m
    simp only [bitsTo, List.length_append]
    split <;> simp <;> omega
theorem bitsTo_mem (K : Nat) : ∀ m, ∀ x ∈ bitsTo K m, 0 ≤ x ∧ x < m
  | 0 => by simp [bitsTo]
  | m + 1 => by
    intro x hx
    simp only [bitsTo, List.mem_append] at hx
    rcases hx with hx | hx
    · have := bitsTo_mem K m x hx; omega
    · split at hx
      · simp at hx; omega
      · simp at hx

end Go.Proofs.YtkipgbgkhffkkaaGreat

/- Contracts of the functions of the library that this program calls, laid at its dump (written by the kit's tools lay-shelf and lay-plain). -/
namespace Go.Proofs
open Go.Shelf
def Tryz.lays169_ren : Go.Shelf.Ren := ⟨fun | 169 => 142 | n => n, fun | 70 => 143 | 9 => 9 | 0 => 0 | 72 => 145 | 37 => 56 | 127 => 166 | 3 => 3 | 5 => 5 | n => n, fun | n => n⟩
theorem Tryz.lays169 : Go.Proofs.Lays.n169 Tryz.prog Tryz.lays169_ren := {
  mixed := by kernel_rfl
  f169 := Tryz.func142.trans (congrArg some (by kernel_rfl))
  t0 := Tryz.underlying0
  a0 := Tryz.isAgg0
  z0 := Tryz.sizeOf0
  v0 := Tryz.zeroValue0
  t3 := Tryz.underlying3
  a3 := Tryz.isAgg3
  z3 := Tryz.sizeOf3
  v3 := Tryz.zeroValue3
  t9 := Tryz.underlying9
  a9 := Tryz.isAgg9
  z9 := Tryz.sizeOf9
  v9 := Tryz.zeroValue9
  t37 := Tryz.underlying56
  a37 := Tryz.isAgg56
  z37 := Tryz.sizeOf56
  v37 := Tryz.zeroValue56
  t70 := Tryz.underlying143
  a70 := Tryz.isAgg143
  z70 := Tryz.sizeOf143
  v70 := Tryz.zeroValue143
  t72 := Tryz.underlying145
  a72 := Tryz.isAgg145
  z72 := Tryz.sizeOf145
  v72 := Tryz.zeroValue145
  t127 := Tryz.underlying166
  a127 := Tryz.isAgg166
  z127 := Tryz.sizeOf166
  v127 := Tryz.zeroValue166 }
theorem Tryz.Builder_Extra_169 : Builder.Extra Tryz.prog Tryz.lays169_ren := {
  sizeBuilder := by kernel_rfl
  liesBuilder := by kernel_rfl
  t5 := Tryz.underlying5
  a5 := Tryz.isAgg5
  z5 := Tryz.sizeOf5
  v5 := Tryz.zeroValue5
  infoByte := by kernel_rfl
  cellsByte := by kernel_rfl
  sizeByte := by kernel_rfl
  neB5 := by decide }
open Go.RowKit in
/-- (*strings.Builder).String: "String returns the accumulated string.": OF A BUILDER THAT HOLDS AT LEAST ONE BYTE. ✋ THE MODEL FREEZES THOSE BYTES IN THE BUFFER (unsafe.String): a later write INTO them ends the model's run without an answer; a later append BEHIND them goes on. The statement's order of evaluation is drawn: one draw. (LAID: no walk: one application.) -/
theorem Tryz.Builder_String (B b : Nat) (l : List UInt8) (w : World) (h : Lib.IsBuilder 145 5 B b (Lib.byteCells l) w) (h0 : l ≠ []) :
    Calls Tryz.prog 142 #[.pointer (some ⟨b, 0, none⟩)] w fun e w' => e = .returned (.string ⟨l.toArray⟩) ∧ Below B w w' := Any.Builder_String Tryz.lays169 Tryz.Builder_Extra_169 B b l w h h0
open Go.RowKit in
/-- (*strings.Builder).String OF A BUILDER THAT HOLDS NO BYTE: the empty string. (Its buffer is nil, or a row of which it has taken nothing yet; where that row has NO capacity the model lays one new block for unsafe.SliceData's 'some address'.) One draw. (LAID: no walk: one application.) -/
theorem Tryz.Builder_String_empty (B b : Nat) (w : World) (h : Lib.IsBuilder 145 5 B b [] w) (hBw : B ≤ w.heap.size) :
    Calls Tryz.prog 142 #[.pointer (some ⟨b, 0, none⟩)] w fun e w' => e = .returned (.string ⟨#[]⟩) ∧ Below B w w' := Any.Builder_String_empty Tryz.lays169 Tryz.Builder_Extra_169 B b w h hBw
open Go.RowKit in
/-- (*strings.Builder).String: "String returns the accumulated string.": WHATEVER THE BUILDER HOLDS. (LAID: no walk: one application.) -/
theorem Tryz.Builder_String_any (B b : Nat) (l : List UInt8) (w : World) (h : Lib.IsBuilder 145 5 B b (Lib.byteCells l) w) (hBw : B ≤ w.heap.size) :
    Calls Tryz.prog 142 #[.pointer (some ⟨b, 0, none⟩)] w fun e w' => e = .returned (.string ⟨l.toArray⟩) ∧ Below B w w' := Any.Builder_String_any Tryz.lays169 Tryz.Builder_Extra_169 B b l w h hBw
def Tryz.lays241_ren : Go.Shelf.Ren := ⟨fun | 241 => 156 | 277 => 169 | n => n, fun | 70 => 143 | 3 => 3 | 0 => 0 | 72 => 145 | 37 => 56 | 5 => 5 | n => n, fun | n => n⟩
theorem Tryz.lays241 : Go.Proofs.Lays.n241 Tryz.prog Tryz.lays241_ren := {
  mixed := by kernel_rfl
  f241 := Tryz.func156.trans (congrArg some (by kernel_rfl))
  f277 := Tryz.func169.trans (congrArg some (by kernel_rfl))
  t0 := Tryz.underlying0
  a0 := Tryz.isAgg0
  z0 := Tryz.sizeOf0
  v0 := Tryz.zeroValue0
  t3 := Tryz.underlying3
  a3 := Tryz.isAgg3
  z3 := Tryz.sizeOf3
  v3 := Tryz.zeroValue3
  t37 := Tryz.underlying56
  a37 := Tryz.isAgg56
  z37 := Tryz.sizeOf56
  v37 := Tryz.zeroValue56
  t70 := Tryz.underlying143
  a70 := Tryz.isAgg143
  z70 := Tryz.sizeOf143
  v70 := Tryz.zeroValue143
  t72 := Tryz.underlying145
  a72 := Tryz.isAgg145
  z72 := Tryz.sizeOf145
  v72 := Tryz.zeroValue145 }
theorem Tryz.Builder_Extra_241 : Builder.Extra Tryz.prog Tryz.lays241_ren := {
  sizeBuilder := by kernel_rfl
  liesBuilder := by kernel_rfl
  t5 := Tryz.underlying5
  a5 := Tryz.isAgg5
  z5 := Tryz.sizeOf5
  v5 := Tryz.zeroValue5
  infoByte := by kernel_rfl
  cellsByte := by kernel_rfl
  sizeByte := by kernel_rfl
  neB5 := by decide }
open Go.RowKit in
/-- (*strings.Builder).grow (no doc but "grow copies the buffer to a new, larger buffer so that there are at least n bytes of capacity beyond len(b.buf)."): AT A BUILDER WITHOUT A BUFFER: a new row of whatever bytes for its buffer, none of them its own yet. Three draws. (LAID: no walk: one application.) -/
theorem Tryz.Builder_grow_fresh (B b n : Nat) (w : World) (hB : B ≤ b) (hbk : w.heap[b]? = some (.cells #[.pointer (some ⟨b, 0, none⟩), .slice none 0 0] 145 (0, 0))) (hBw : B ≤ w.heap.size) (hn : n ≤ 281474976710656) :
    Calls Tryz.prog 156 #[.pointer (some ⟨b, 0, none⟩), .int .i64 n] w fun e w' => e = .returned (.tuple #[]) ∧ (Lib.BuilderAt 145 5 B b (.pointer (some ⟨b, 0, none⟩)) [] w' ∧ Below B w w') := Any.Builder_grow_fresh Tryz.lays241 Tryz.Builder_Extra_241 B b n w hB hbk hBw hn
def Tryz.lays165_ren : Go.Shelf.Ren := ⟨fun | 165 => 140 | 240 => 155 | 241 => 156 | 276 => 168 | 277 => 169 | n => n, fun | 70 => 143 | 3 => 3 | 0 => 0 | 4 => 4 | 9 => 9 | 20 => 20 | 72 => 145 | 37 => 56 | 164 => 178 | 5 => 5 | n => n, fun | n => n⟩
theorem Tryz.lays165 : Go.Proofs.Lays.n165 Tryz.prog Tryz.lays165_ren := {
  mixed := by kernel_rfl
  f165 := Tryz.func140.trans (congrArg some (by kernel_rfl))
  f240 := Tryz.func155.trans (congrArg some (by kernel_rfl))
  f241 := Tryz.func156.trans (congrArg some (by kernel_rfl))
  f276 := Tryz.func168.trans (congrArg some (by kernel_rfl))
  f277 := Tryz.func169.trans (congrArg some (by kernel_rfl))
  t0 := Tryz.underlying0
  a0 := Tryz.isAgg0
  z0 := Tryz.sizeOf0
  v0 := Tryz.zeroValue0
  t3 := Tryz.underlying3
  a3 := Tryz.isAgg3
  z3 := Tryz.sizeOf3
  v3 := Tryz.zeroValue3
  t4 := Tryz.underlying4
  a4 := Tryz.isAgg4
  z4 := Tryz.sizeOf4
  v4 := Tryz.zeroValue4
  t9 := Tryz.underlying9
  a9 := Tryz.isAgg9
  z9 := Tryz.sizeOf9
  v9 := Tryz.zeroValue9
  t20 := Tryz.underlying20
  a20 := Tryz.isAgg20
  z20 := Tryz.sizeOf20
  v20 := Tryz.zeroValue20
  t37 := Tryz.underlying56
  a37 := Tryz.isAgg56
  z37 := Tryz.sizeOf56
  v37 := Tryz.zeroValue56
  t70 := Tryz.underlying143
  a70 := Tryz.isAgg143
  z70 := Tryz.sizeOf143
  v70 := Tryz.zeroValue143
  t72 := Tryz.underlying145
  a72 := Tryz.isAgg145
  z72 := Tryz.sizeOf145
  v72 := Tryz.zeroValue145
  t164 := Tryz.underlying178
  a164 := Tryz.isAgg178
  z164 := Tryz.sizeOf178
  v164 := Tryz.zeroValue178 }
theorem Tryz.Builder_Extra_165 : Builder.Extra Tryz.prog Tryz.lays165_ren := {
  sizeBuilder := by kernel_rfl
  liesBuilder := by kernel_rfl
  t5 := Tryz.underlying5
  a5 := Tryz.isAgg5
  z5 := Tryz.sizeOf5
  v5 := Tryz.zeroValue5
  infoByte := by kernel_rfl
  cellsByte := by kernel_rfl
  sizeByte := by kernel_rfl
  neB5 := by decide }
open Go.RowKit in
/-- (*strings.Builder).Grow AT A BUILDER THAT HAS NOT BEEN WRITTEN ('var b strings.Builder; b.Grow(n)'): "Grow grows b's capacity, if necessary, to guarantee space for another n bytes.": it holds no byte behind it as before it. (LAID: no walk: one application.) -/
theorem Tryz.Builder_Grow_fresh (B b n : Nat) (w : World) (hB : B ≤ b) (hbk : w.heap[b]? = some (.cells #[.pointer none, .slice none 0 0] 145 (0, 0))) (hBw : B ≤ w.heap.size) (hn : n ≤ 281474976710656) :
    Calls Tryz.prog 140 #[.pointer (some ⟨b, 0, none⟩), .int .i64 n] w fun e w' => e = .returned (.tuple #[]) ∧ (Lib.BuilderAt 145 5 B b (.pointer (some ⟨b, 0, none⟩)) [] w' ∧ Below B w w') := Any.Builder_Grow_fresh Tryz.lays165 Tryz.Builder_Extra_165 B b n w hB hbk hBw hn
def Tryz.lays128_ren : Go.Shelf.Ren := ⟨fun | 128 => 165 | n => n, fun | 51 => 154 | 3 => 3 | 4 => 4 | 46 => 132 | 5 => 5 | 9 => 9 | n => n, fun | n => n⟩
theorem Tryz.lays128 : Go.Proofs.Lays.n128 Tryz.prog Tryz.lays128_ren := {
  mixed := by kernel_rfl
  f128 := Tryz.func165.trans (congrArg some (by kernel_rfl))
  t3 := Tryz.underlying3
  a3 := Tryz.isAgg3
  z3 := Tryz.sizeOf3
  v3 := Tryz.zeroValue3
  t4 := Tryz.underlying4
  a4 := Tryz.isAgg4
  z4 := Tryz.sizeOf4
  v4 := Tryz.zeroValue4
  t5 := Tryz.underlying5
  a5 := Tryz.isAgg5
  z5 := Tryz.sizeOf5
  v5 := Tryz.zeroValue5
  t9 := Tryz.underlying9
  a9 := Tryz.isAgg9
  z9 := Tryz.sizeOf9
  v9 := Tryz.zeroValue9
  t46 := Tryz.underlying132
  a46 := Tryz.isAgg132
  z46 := Tryz.sizeOf132
  v46 := Tryz.zeroValue132
  t51 := Tryz.underlying154
  a51 := Tryz.isAgg154
  z51 := Tryz.sizeOf154
  v51 := Tryz.zeroValue154 }
/-- bits.Len32: "Len32 returns the minimum number of bits required to represent x; the result is 0 for x == 0.": IT RETURNS 'Lib.bitLen x'; the world is as it was. ('h0', 'h1': x is a uint32.) (LAID: no walk: one application.) -/
theorem Tryz.bits_Len32 (x : Int) (w : World) (h0 : 0 ≤ x) (h1 : x ≤ 4294967295) :
    Calls Tryz.prog 165 #[.int .u32 x] w fun e w' => e = .returned (.int .i64 (Lib.bitLen x.toNat)) ∧ w' = w := Any.bits_Len32 Tryz.lays128 x w h0 h1
def Tryz.lays125_ren : Go.Shelf.Ren := ⟨fun | 125 => 150 | 128 => 165 | 129 => 166 | n => n, fun | 46 => 132 | 3 => 3 | 51 => 154 | 53 => 157 | 4 => 4 | 5 => 5 | 9 => 9 | n => n, fun | n => n⟩
theorem Tryz.lays125 : Go.Proofs.Lays.n125 Tryz.prog Tryz.lays125_ren := {
  mixed := by kernel_rfl
  f125 := Tryz.func150.trans (congrArg some (by kernel_rfl))
  f128 := Tryz.func165.trans (congrArg some (by kernel_rfl))
  f129 := Tryz.func166.trans (congrArg some (by kernel_rfl))
  t3 := Tryz.underlying3
  a3 := Tryz.isAgg3
  z3 := Tryz.sizeOf3
  v3 := Tryz.zeroValue3
  t4 := Tryz.underlying4
  a4 := Tryz.isAgg4
  z4 := Tryz.sizeOf4
  v4 := Tryz.zeroValue4
  t5 := Tryz.underlying5
  a5 := Tryz.isAgg5
  z5 := Tryz.sizeOf5
  v5 := Tryz.zeroValue5
  t9 := Tryz.underlying9
  a9 := Tryz.isAgg9
  z9 := Tryz.sizeOf9
  v9 := Tryz.zeroValue9
  t46 := Tryz.underlying132
  a46 := Tryz.isAgg132
  z46 := Tryz.sizeOf132
  v46 := Tryz.zeroValue132
  t51 := Tryz.underlying154
  a51 := Tryz.isAgg154
  z51 := Tryz.sizeOf154
  v51 := Tryz.zeroValue154
  t53 := Tryz.underlying157
  a53 := Tryz.isAgg157
  z53 := Tryz.sizeOf157
  v53 := Tryz.zeroValue157 }
/-- bits.Len: "Len returns the minimum number of bits required to represent x; the result is 0 for x == 0.": IT RETURNS 'Lib.bitLen x'; the world is as it was. (A uint has 64 bits in the model.) ITS CALLEE bits.Len64 IS MET BY ITS OWN CONTRACT OFF THE SHELF (lay that first). (LAID: no walk: one application.) -/
theorem Tryz.bits_Len (x : Int) (w : World) (h0 : 0 ≤ x) (h1 : x ≤ 18446744073709551615) :
    Calls Tryz.prog 150 #[.int .u64 x] w fun e w' => e = .returned (.int .i64 (Lib.bitLen x.toNat)) ∧ w' = w := Any.bits_Len Tryz.lays125 x w h0 h1
def Tryz.lays129_ren : Go.Shelf.Ren := ⟨fun | 129 => 166 | n => n, fun | 53 => 157 | 3 => 3 | 4 => 4 | 46 => 132 | 5 => 5 | 9 => 9 | n => n, fun | n => n⟩
theorem Tryz.lays129 : Go.Proofs.Lays.n129 Tryz.prog Tryz.lays129_ren := {
  mixed := by kernel_rfl
  f129 := Tryz.func166.trans (congrArg some (by kernel_rfl))
  t3 := Tryz.underlying3
  a3 := Tryz.isAgg3
  z3 := Tryz.sizeOf3
  v3 := Tryz.zeroValue3
  t4 := Tryz.underlying4
  a4 := Tryz.isAgg4
  z4 := Tryz.sizeOf4
  v4 := Tryz.zeroValue4
  t5 := Tryz.underlying5
  a5 := Tryz.isAgg5
  z5 := Tryz.sizeOf5
  v5 := Tryz.zeroValue5
  t9 := Tryz.underlying9
  a9 := Tryz.isAgg9
  z9 := Tryz.sizeOf9
  v9 := Tryz.zeroValue9
  t46 := Tryz.underlying132
  a46 := Tryz.isAgg132
  z46 := Tryz.sizeOf132
  v46 := Tryz.zeroValue132
  t53 := Tryz.underlying157
  a53 := Tryz.isAgg157
  z53 := Tryz.sizeOf157
  v53 := Tryz.zeroValue157 }
/-- bits.Len64: "Len64 returns the minimum number of bits required to represent x; the result is 0 for x == 0.": IT RETURNS 'Lib.bitLen x'; the world is as it was. ('h0', 'h1': x is a uint64.) (LAID: no walk: one application.) -/
theorem Tryz.bits_Len64 (x : Int) (w : World) (h0 : 0 ≤ x) (h1 : x ≤ 18446744073709551615) :
    Calls Tryz.prog 166 #[.int .u64 x] w fun e w' => e = .returned (.int .i64 (Lib.bitLen x.toNat)) ∧ w' = w := Any.bits_Len64 Tryz.lays129 x w h0 h1
def Tryz.lays264_ren : Go.Shelf.Ren := ⟨fun | 264 => 148 | n => n, fun | 53 => 157 | 46 => 132 | n => n, fun | n => n⟩
theorem Tryz.lays264 : Go.Proofs.Lays.n264 Tryz.prog Tryz.lays264_ren := {
  mixed := by kernel_rfl
  f264 := Tryz.func148.trans (congrArg some (by kernel_rfl))
  t46 := Tryz.underlying132
  a46 := Tryz.isAgg132
  z46 := Tryz.sizeOf132
  v46 := Tryz.zeroValue132
  t53 := Tryz.underlying157
  a53 := Tryz.isAgg157
  z53 := Tryz.sizeOf157
  v53 := Tryz.zeroValue157 }
open Go.RowKit Go.Lib in
theorem Tryz.bits_Mul64 (x y : Nat) (hx : x < 18446744073709551616) (hy : y < 18446744073709551616) (w : World) :
    Calls Tryz.prog 148 #[.int .u64 x, .int .u64 y] w fun e w' => e = .returned (.tuple #[.int .u64 ((x * y / 18446744073709551616 : Nat) : Int), .int .u64 ((x * y % 18446744073709551616 : Nat) : Int)]) ∧ w' = w := Any.bits_Mul64 Tryz.lays264 x y hx hy w
def Tryz.lays212_ren : Go.Shelf.Ren := ⟨fun | 212 => 129 | 263 => 147 | 264 => 148 | n => n, fun | 46 => 132 | 51 => 154 | 146 => 155 | 53 => 157 | 148 => 158 | n => n, fun | n => n⟩
theorem Tryz.lays212 : Go.Proofs.Lays.n212 Tryz.prog Tryz.lays212_ren := {
  mixed := by kernel_rfl
  f212 := Tryz.func129.trans (congrArg some (by kernel_rfl))
  f263 := Tryz.func147.trans (congrArg some (by kernel_rfl))
  f264 := Tryz.func148.trans (congrArg some (by kernel_rfl))
  t46 := Tryz.underlying132
  a46 := Tryz.isAgg132
  z46 := Tryz.sizeOf132
  v46 := Tryz.zeroValue132
  t51 := Tryz.underlying154
  a51 := Tryz.isAgg154
  z51 := Tryz.sizeOf154
  v51 := Tryz.zeroValue154
  t53 := Tryz.underlying157
  a53 := Tryz.isAgg157
  z53 := Tryz.sizeOf157
  v53 := Tryz.zeroValue157
  t146 := Tryz.underlying155
  a146 := Tryz.isAgg155
  z146 := Tryz.sizeOf155
  v146 := Tryz.zeroValue155
  t148 := Tryz.underlying158
  a148 := Tryz.isAgg158
  z148 := Tryz.sizeOf158
  v148 := Tryz.zeroValue158 }
open Go.RowKit Go.Lib in
/-- math/bits.Mul: "Mul returns the full-width product of x and y": on a machine of 64 bits: Mul64's. (LAID: no walk: one application.) -/
theorem Tryz.bits_Mul (x y : Nat) (hx : x < 18446744073709551616) (hy : y < 18446744073709551616) (w : World) :
    Calls Tryz.prog 129 #[.int .u64 x, .int .u64 y] w fun e w' => e = .returned (.tuple #[.int .u64 ((x * y / 18446744073709551616 : Nat) : Int), .int .u64 ((x * y % 18446744073709551616 : Nat) : Int)]) ∧ w' = w := Any.bits_Mul Tryz.lays212 x y hx hy w
def Tryz.laysNm237_ren : Go.Shelf.Ren := ⟨fun | 37 => 167 | n => n, fun | 3 => 3 | 4 => 4 | n => n, fun | n => n⟩
theorem Tryz.laysNm237 : Go.Proofs.Lays2.n37 Tryz.prog Tryz.laysNm237_ren := {
  mixed := by kernel_rfl
  f37 := Tryz.func167.trans (congrArg some (by kernel_rfl))
  t3 := Tryz.underlying3
  a3 := Tryz.isAgg3
  z3 := Tryz.sizeOf3
  v3 := Tryz.zeroValue3
  t4 := Tryz.underlying4
  a4 := Tryz.isAgg4
  z4 := Tryz.sizeOf4
  v4 := Tryz.zeroValue4 }
open Go.RowKit Go.Lib in
/-- cmp.isNaN[int]: 'x != x': false. (LAID: no walk: one application.) -/
theorem Tryz.cmp_isNaN_int2 (x : Int) (w : World) :
    Calls Tryz.prog 167 #[.int .i64 x] w fun e w' => e = .returned (.bool false) ∧ w' = w := Any.cmp_isNaN_int2 Tryz.laysNm237 x w
def Tryz.laysSlF20_f157_ren : Go.Shelf.Ren := ⟨fun | 20 => 157 | n => n, fun | 24 => 30 | 22 => 47 | 3 => 3 | 25 => 101 | 4 => 4 | 0 => 0 | n => n, fun | n => n⟩
theorem Tryz.laysSlF20_f157 : Go.Proofs.SlLaysF.n20 Tryz.prog Tryz.laysSlF20_f157_ren := {
  mixed := by kernel_rfl
  f20 := ⟨Tryz.f157.name, by decide, Tryz.func157.trans (congrArg some (by kernel_rfl))⟩
  t0 := Tryz.underlying0
  a0 := Tryz.isAgg0
  z0 := Tryz.sizeOf0
  v0 := Tryz.zeroValue0
  t3 := Tryz.underlying3
  a3 := Tryz.isAgg3
  z3 := Tryz.sizeOf3
  v3 := Tryz.zeroValue3
  t4 := Tryz.underlying4
  a4 := Tryz.isAgg4
  z4 := Tryz.sizeOf4
  v4 := Tryz.zeroValue4
  t22 := Tryz.underlying47
  a22 := Tryz.isAgg47
  z22 := Tryz.sizeOf47
  v22 := Tryz.zeroValue47
  a24 := Tryz.isAgg30
  z24 := Tryz.sizeOf30
  t25 := Tryz.underlying101
  a25 := Tryz.isAgg101
  z25 := Tryz.sizeOf101
  v25 := Tryz.zeroValue101 }
open Go.RowKit Go.Lib Go.Sort in
theorem Tryz.insertionSortCmpFunc_one {α : Type} [Inhabited α] (enc : α → Value) (hO : OneCell enc) (cf : α → α → Int) (g : Nat) (cb : Array Value) (blk off cap a b : Nat) (d : Array α) (w : World) (eg : ∀ args w, (callFunc g args).run Tryz.prog w = .ok (.enter g args) w) (hcmp : CmpReads Tryz.prog g cb enc cf blk off d.size w) (hH : Holds enc w blk off d) (hab : a ≤ b) (hb : b ≤ d.size) (hsz : d.size < 4611686018427387904) :
    Calls Tryz.prog 157 #[.slice (some ⟨blk, off, none⟩) d.size cap, .int .i64 a, .int .i64 b, .func (.func g) #[] cb] w fun e w' =>
      e = .returned (.tuple #[]) ∧ ∃ n, w' = (putRow enc w blk off (Sort.insertionSort (ltOf cf) d a b)).drewN n := Any.insertionSortCmpFunc_one Tryz.laysSlF20_f157 enc hO cf g cb blk off cap a b d w eg hcmp hH hab hb hsz
def Tryz.laysSlF46_f170_ren : Go.Shelf.Ren := ⟨fun | 46 => 170 | n => n, fun | 24 => 30 | 22 => 47 | 3 => 3 | 25 => 101 | 4 => 4 | 0 => 0 | n => n, fun | n => n⟩
theorem Tryz.laysSlF46_f170 : Go.Proofs.SlLaysF.n46 Tryz.prog Tryz.laysSlF46_f170_ren := {
  mixed := by kernel_rfl
  f46 := ⟨Tryz.f170.name, by decide, Tryz.func170.trans (congrArg some (by kernel_rfl))⟩
  t0 := Tryz.underlying0
  a0 := Tryz.isAgg0
  z0 := Tryz.sizeOf0
  v0 := Tryz.zeroValue0
  t3 := Tryz.underlying3
  a3 := Tryz.isAgg3
  z3 := Tryz.sizeOf3
  v3 := Tryz.zeroValue3
  t4 := Tryz.underlying4
  a4 := Tryz.isAgg4
  z4 := Tryz.sizeOf4
  v4 := Tryz.zeroValue4
  t22 := Tryz.underlying47
  a22 := Tryz.isAgg47
  z22 := Tryz.sizeOf47
  v22 := Tryz.zeroValue47
  a24 := Tryz.isAgg30
  z24 := Tryz.sizeOf30
  t25 := Tryz.underlying101
  a25 := Tryz.isAgg101
  z25 := Tryz.sizeOf101
  v25 := Tryz.zeroValue101 }
open Go.RowKit Go.Lib Go.Sort in
/-- slices.siftDownCmpFunc at elements of one cell: from a world of the sort's to a world of the sort's. (LAID AT THE INSTANCE 'slices.siftDownCmpFunc[[]int]': no walk: one application.) -/
theorem Tryz.siftDownCmpFunc {α : Type} [Inhabited α] (enc : α → Value) (cf : α → α → Int) (g : Nat) (cb : Array Value) (blk off cap lo hi first : Nat) (d0 d : Array α) (w0 w : World) (eg : ∀ args w, (callFunc g args).run Tryz.prog w = .ok (.enter g args) w) (hcmp : CmpLays1 Tryz.prog g cb enc cf blk off d0.size w0) (R : Row1 enc w0 blk off d0) (hs : d0.size = d.size) (S : SW enc w0 blk off d w) (hlo : lo ≤ hi) (hb : first + hi ≤ d.size) (hsz : d.size < 4611686018427387904) :
    Calls Tryz.prog 170 #[.slice (some ⟨blk, off, none⟩) d.size cap, .int .i64 lo, .int .i64 hi, .int .i64 first, .func (.func g) #[] cb] w fun e w' =>
      e = .returned (.tuple #[]) ∧ SW enc w0 blk off (siftDown (ltOf cf) hi first lo d) w' := Any.siftDownCmpFunc Tryz.laysSlF46_f170 enc cf g cb blk off cap lo hi first d0 d w0 w eg hcmp R hs S hlo hb hsz
def Tryz.laysSlF21_f158_ren : Go.Shelf.Ren := ⟨fun | 21 => 158 | 46 => 170 | n => n, fun | 24 => 30 | 22 => 47 | 3 => 3 | 25 => 101 | 4 => 4 | 0 => 0 | n => n, fun | n => n⟩
theorem Tryz.laysSlF21_f158 : Go.Proofs.SlLaysF.n21 Tryz.prog Tryz.laysSlF21_f158_ren := {
  mixed := by kernel_rfl
  f21 := ⟨Tryz.f158.name, by decide, Tryz.func158.trans (congrArg some (by kernel_rfl))⟩
  f46 := ⟨Tryz.f170.name, by decide, Tryz.func170.trans (congrArg some (by kernel_rfl))⟩
  t0 := Tryz.underlying0
  a0 := Tryz.isAgg0
  z0 := Tryz.sizeOf0
  v0 := Tryz.zeroValue0
  t3 := Tryz.underlying3
  a3 := Tryz.isAgg3
  z3 := Tryz.sizeOf3
  v3 := Tryz.zeroValue3
  t4 := Tryz.underlying4
  a4 := Tryz.isAgg4
  z4 := Tryz.sizeOf4
  v4 := Tryz.zeroValue4
  t22 := Tryz.underlying47
  a22 := Tryz.isAgg47
  z22 := Tryz.sizeOf47
  v22 := Tryz.zeroValue47
  a24 := Tryz.isAgg30
  z24 := Tryz.sizeOf30
  t25 := Tryz.underlying101
  a25 := Tryz.isAgg101
  z25 := Tryz.sizeOf101
  v25 := Tryz.zeroValue101 }
open Go.RowKit Go.Lib Go.Sort in
/-- slices.heapSortCmpFunc at elements of one cell. (LAID AT THE INSTANCE 'slices.heapSortCmpFunc[[]int]': no walk: one application.) -/
theorem Tryz.heapSortCmpFunc {α : Type} [Inhabited α] (enc : α → Value) (cf : α → α → Int) (g : Nat) (cb : Array Value) (blk off cap a b : Nat) (d0 d : Array α) (w0 w : World) (eg : ∀ args w, (callFunc g args).run Tryz.prog w = .ok (.enter g args) w) (hcmp : CmpLays1 Tryz.prog g cb enc cf blk off d0.size w0) (R : Row1 enc w0 blk off d0) (hs : d0.size = d.size) (S : SW enc w0 blk off d w) (hab : a ≤ b) (hb : b ≤ d.size) (hsz : d.size < 4611686018427387904) :
    Calls Tryz.prog 158 #[.slice (some ⟨blk, off, none⟩) d.size cap, .int .i64 a, .int .i64 b, .func (.func g) #[] cb] w fun e w' =>
      e = .returned (.tuple #[]) ∧ SW enc w0 blk off (heapSort (ltOf cf) d a b) w' := Any.heapSortCmpFunc Tryz.laysSlF21_f158 enc cf g cb blk off cap a b d0 d w0 w eg hcmp R hs S hab hb hsz
open Go.RowKit Go.Lib Go.Sort in
/-- slices.insertionSortCmpFunc at elements of one cell: from a world of the sort's to a world of the sort's. (LAID AT THE INSTANCE 'slices.insertionSortCmpFunc[[]int]': no walk: one application.) -/
theorem Tryz.insertionSortCmpFunc_s {α : Type} [Inhabited α] (enc : α → Value) (cf : α → α → Int) (g : Nat) (cb : Array Value) (blk off cap a b : Nat) (d0 d : Array α) (w0 w : World) (eg : ∀ args w, (callFunc g args).run Tryz.prog w = .ok (.enter g args) w) (hcmp : CmpLays1 Tryz.prog g cb enc cf blk off d0.size w0) (R : Row1 enc w0 blk off d0) (hs : d0.size = d.size) (S : SW enc w0 blk off d w) (hab : a ≤ b) (hb : b ≤ d.size) (hsz : d.size < 4611686018427387904) :
    Calls Tryz.prog 157 #[.slice (some ⟨blk, off, none⟩) d.size cap, .int .i64 a, .int .i64 b, .func (.func g) #[] cb] w fun e w' => e = .returned (.tuple #[]) ∧ SW enc w0 blk off (Sort.insertionSort (ltOf cf) d a b) w' := Any.insertionSortCmpFunc_s Tryz.laysSlF20_f157 enc cf g cb blk off cap a b d0 d w0 w eg hcmp R hs S hab hb hsz
def Tryz.laysSlF57_f175_ren : Go.Shelf.Ren := ⟨fun | 57 => 175 | n => n, fun | 24 => 30 | 22 => 47 | 3 => 3 | 70 => 185 | 25 => 101 | 0 => 0 | 4 => 4 | n => n, fun | n => n⟩
theorem Tryz.laysSlF57_f175 : Go.Proofs.SlLaysF.n57 Tryz.prog Tryz.laysSlF57_f175_ren := {
  mixed := by kernel_rfl
  f57 := ⟨Tryz.f175.name, by decide, Tryz.func175.trans (congrArg some (by kernel_rfl))⟩
  t0 := Tryz.underlying0
  a0 := Tryz.isAgg0
  z0 := Tryz.sizeOf0
  v0 := Tryz.zeroValue0
  t3 := Tryz.underlying3
  a3 := Tryz.isAgg3
  z3 := Tryz.sizeOf3
  v3 := Tryz.zeroValue3
  t4 := Tryz.underlying4
  a4 := Tryz.isAgg4
  z4 := Tryz.sizeOf4
  v4 := Tryz.zeroValue4
  t22 := Tryz.underlying47
  a22 := Tryz.isAgg47
  z22 := Tryz.sizeOf47
  v22 := Tryz.zeroValue47
  a24 := Tryz.isAgg30
  z24 := Tryz.sizeOf30
  t25 := Tryz.underlying101
  a25 := Tryz.isAgg101
  z25 := Tryz.sizeOf101
  v25 := Tryz.zeroValue101
  t70 := Tryz.underlying185
  a70 := Tryz.isAgg185
  z70 := Tryz.sizeOf185
  v70 := Tryz.zeroValue185 }
open Go.RowKit Go.Lib Go.Sort in
/-- slices.order2CmpFunc at elements of one cell. (LAID AT THE INSTANCE 'slices.order2CmpFunc[[]int]': no walk: one application.) -/
theorem Tryz.order2CmpFunc {α : Type} [Inhabited α] (enc : α → Value) (cf : α → α → Int) (g : Nat) (cb : Array Value) (blk off cap a b c s : Nat) (d0 d : Array α) (w0 W : World) (eg : ∀ args w, (callFunc g args).run Tryz.prog w = .ok (.enter g args) w) (hcmp : CmpLays1 Tryz.prog g cb enc cf blk off d0.size w0) (R : Row1 enc w0 blk off d0) (hs : d0.size = d.size) (C : Cnt1 enc w0 blk off d c s W) (ha : a < d.size) (hb : b < d.size) (hsz : d.size < 4611686018427387904) (hss : s < 4611686018427387904) :
    Calls Tryz.prog 175 #[.slice (some ⟨blk, off, none⟩) d.size cap, .int .i64 a, .int .i64 b, .pointer (some ⟨c, 0, none⟩), .func (.func g) #[] cb] W fun e w' =>
      e = .returned (.tuple #[.int .i64 (order2 (ltOf cf) d a b s).1, .int .i64 (order2 (ltOf cf) d a b s).2.1]) ∧ Cnt1 enc w0 blk off d c (order2 (ltOf cf) d a b s).2.2 w' := Any.order2CmpFunc Tryz.laysSlF57_f175 enc cf g cb blk off cap a b c s d0 d w0 W eg hcmp R hs C ha hb hsz hss
def Tryz.laysSlF50_f174_ren : Go.Shelf.Ren := ⟨fun | 50 => 174 | 57 => 175 | n => n, fun | 24 => 30 | 22 => 47 | 3 => 3 | 70 => 185 | 25 => 101 | 77 => 188 | 0 => 0 | 4 => 4 | n => n, fun | n => n⟩
theorem Tryz.laysSlF50_f174 : Go.Proofs.SlLaysF.n50 Tryz.prog Tryz.laysSlF50_f174_ren := {
  mixed := by kernel_rfl
  f50 := ⟨Tryz.f174.name, by decide, Tryz.func174.trans (congrArg some (by kernel_rfl))⟩
  f57 := ⟨Tryz.f175.name, by decide, Tryz.func175.trans (congrArg some (by kernel_rfl))⟩
  t0 := Tryz.underlying0
  a0 := Tryz.isAgg0
  z0 := Tryz.sizeOf0
  v0 := Tryz.zeroValue0
  t3 := Tryz.underlying3
  a3 := Tryz.isAgg3
  z3 := Tryz.sizeOf3
  v3 := Tryz.zeroValue3
  t4 := Tryz.underlying4
  a4 := Tryz.isAgg4
  z4 := Tryz.sizeOf4
  v4 := Tryz.zeroValue4
  t22 := Tryz.underlying47
  a22 := Tryz.isAgg47
  z22 := Tryz.sizeOf47
  v22 := Tryz.zeroValue47
  a24 := Tryz.isAgg30
  z24 := Tryz.sizeOf30
  t25 := Tryz.underlying101
  a25 := Tryz.isAgg101
  z25 := Tryz.sizeOf101
  v25 := Tryz.zeroValue101
  t70 := Tryz.underlying185
  a70 := Tryz.isAgg185
  z70 := Tryz.sizeOf185
  v70 := Tryz.zeroValue185
  t77 := Tryz.underlying188
  a77 := Tryz.isAgg188
  z77 := Tryz.sizeOf188
  v77 := Tryz.zeroValue188 }
open Go.RowKit Go.Lib Go.Sort in
/-- slices.medianCmpFunc at elements of one cell. (LAID AT THE INSTANCE 'slices.medianCmpFunc[[]int]': no walk: one application.) -/
theorem Tryz.medianCmpFunc {α : Type} [Inhabited α] (enc : α → Value) (cf : α → α → Int) (g : Nat) (cb : Array Value) (blk off cap a b c' c s : Nat) (d0 d : Array α) (w0 W : World) (eg : ∀ args w, (callFunc g args).run Tryz.prog w = .ok (.enter g args) w) (hcmp : CmpLays1 Tryz.prog g cb enc cf blk off d0.size w0) (R : Row1 enc w0 blk off d0) (hs : d0.size = d.size) (C : Cnt1 enc w0 blk off d c s W) (ha : a < d.size) (hb : b < d.size) (hc : c' < d.size) (hsz : d.size < 4611686018427387904) (hss : s + 3 < 4611686018427387904) :
    Calls Tryz.prog 174 #[.slice (some ⟨blk, off, none⟩) d.size cap, .int .i64 a, .int .i64 b, .int .i64 c', .pointer (some ⟨c, 0, none⟩), .func (.func g) #[] cb] W fun e w' =>
      e = .returned (.int .i64 (median (ltOf cf) d a b c' s).1) ∧ Cnt1 enc w0 blk off d c (median (ltOf cf) d a b c' s).2 w' := Any.medianCmpFunc Tryz.laysSlF50_f174 enc cf g cb blk off cap a b c' c s d0 d w0 W eg hcmp R hs C ha hb hc hsz hss
def Tryz.laysSlF49_f173_ren : Go.Shelf.Ren := ⟨fun | 49 => 173 | 50 => 174 | 57 => 175 | n => n, fun | 24 => 30 | 22 => 47 | 3 => 3 | 70 => 185 | 25 => 101 | 77 => 188 | 0 => 0 | 4 => 4 | n => n, fun | n => n⟩
theorem Tryz.laysSlF49_f173 : Go.Proofs.SlLaysF.n49 Tryz.prog Tryz.laysSlF49_f173_ren := {
  mixed := by kernel_rfl
  f49 := ⟨Tryz.f173.name, by decide, Tryz.func173.trans (congrArg some (by kernel_rfl))⟩
  f50 := ⟨Tryz.f174.name, by decide, Tryz.func174.trans (congrArg some (by kernel_rfl))⟩
  f57 := ⟨Tryz.f175.name, by decide, Tryz.func175.trans (congrArg some (by kernel_rfl))⟩
  t0 := Tryz.underlying0
  a0 := Tryz.isAgg0
  z0 := Tryz.sizeOf0
  v0 := Tryz.zeroValue0
  t3 := Tryz.underlying3
  a3 := Tryz.isAgg3
  z3 := Tryz.sizeOf3
  v3 := Tryz.zeroValue3
  t4 := Tryz.underlying4
  a4 := Tryz.isAgg4
  z4 := Tryz.sizeOf4
  v4 := Tryz.zeroValue4
  t22 := Tryz.underlying47
  a22 := Tryz.isAgg47
  z22 := Tryz.sizeOf47
  v22 := Tryz.zeroValue47
  a24 := Tryz.isAgg30
  z24 := Tryz.sizeOf30
  t25 := Tryz.underlying101
  a25 := Tryz.isAgg101
  z25 := Tryz.sizeOf101
  v25 := Tryz.zeroValue101
  t70 := Tryz.underlying185
  a70 := Tryz.isAgg185
  z70 := Tryz.sizeOf185
  v70 := Tryz.zeroValue185
  t77 := Tryz.underlying188
  a77 := Tryz.isAgg188
  z77 := Tryz.sizeOf188
  v77 := Tryz.zeroValue188 }
open Go.RowKit Go.Lib Go.Sort in
/-- slices.medianAdjacentCmpFunc at elements of one cell. (LAID AT THE INSTANCE 'slices.medianAdjacentCmpFunc[[]int]': no walk: one application.) -/
theorem Tryz.medianAdjacentCmpFunc {α : Type} [Inhabited α] (enc : α → Value) (cf : α → α → Int) (g : Nat) (cb : Array Value) (blk off cap a c s : Nat) (d0 d : Array α) (w0 W : World) (eg : ∀ args w, (callFunc g args).run Tryz.prog w = .ok (.enter g args) w) (hcmp : CmpLays1 Tryz.prog g cb enc cf blk off d0.size w0) (R : Row1 enc w0 blk off d0) (hs : d0.size = d.size) (C : Cnt1 enc w0 blk off d c s W) (ha1 : 1 ≤ a) (ha2 : a + 1 < d.size) (hsz : d.size < 4611686018427387904) (hss : s + 3 < 4611686018427387904) :
    Calls Tryz.prog 173 #[.slice (some ⟨blk, off, none⟩) d.size cap, .int .i64 a, .pointer (some ⟨c, 0, none⟩), .func (.func g) #[] cb] W fun e w' =>
      e = .returned (.int .i64 (medianAdjacent (ltOf cf) d a s).1) ∧ Cnt1 enc w0 blk off d c (medianAdjacent (ltOf cf) d a s).2 w' := Any.medianAdjacentCmpFunc Tryz.laysSlF49_f173 enc cf g cb blk off cap a c s d0 d w0 W eg hcmp R hs C ha1 ha2 hsz hss
def Tryz.laysSlF23_f160_ren : Go.Shelf.Ren := ⟨fun | 23 => 160 | 49 => 173 | 50 => 174 | 57 => 175 | n => n, fun | 24 => 30 | 22 => 47 | 3 => 3 | 25 => 101 | 45 => 168 | 0 => 0 | 4 => 4 | 70 => 185 | 77 => 188 | n => n, fun | n => n⟩
theorem Tryz.laysSlF23_f160 : Go.Proofs.SlLaysF.n23 Tryz.prog Tryz.laysSlF23_f160_ren := {
  mixed := by kernel_rfl
  f23 := ⟨Tryz.f160.name, by decide, Tryz.func160.trans (congrArg some (by kernel_rfl))⟩
  f49 := ⟨Tryz.f173.name, by decide, Tryz.func173.trans (congrArg some (by kernel_rfl))⟩
  f50 := ⟨Tryz.f174.name, by decide, Tryz.func174.trans (congrArg some (by kernel_rfl))⟩
  f57 := ⟨Tryz.f175.name, by decide, Tryz.func175.trans (congrArg some (by kernel_rfl))⟩
  t0 := Tryz.underlying0
  a0 := Tryz.isAgg0
  z0 := Tryz.sizeOf0
  v0 := Tryz.zeroValue0
  t3 := Tryz.underlying3
  a3 := Tryz.isAgg3
  z3 := Tryz.sizeOf3
  v3 := Tryz.zeroValue3
  t4 := Tryz.underlying4
  a4 := Tryz.isAgg4
  z4 := Tryz.sizeOf4
  v4 := Tryz.zeroValue4
  t22 := Tryz.underlying47
  a22 := Tryz.isAgg47
  z22 := Tryz.sizeOf47
  v22 := Tryz.zeroValue47
  a24 := Tryz.isAgg30
  z24 := Tryz.sizeOf30
  t25 := Tryz.underlying101
  a25 := Tryz.isAgg101
  z25 := Tryz.sizeOf101
  v25 := Tryz.zeroValue101
  t45 := Tryz.underlying168
  a45 := Tryz.isAgg168
  z45 := Tryz.sizeOf168
  v45 := Tryz.zeroValue168
  t70 := Tryz.underlying185
  a70 := Tryz.isAgg185
  z70 := Tryz.sizeOf185
  v70 := Tryz.zeroValue185
  t77 := Tryz.underlying188
  a77 := Tryz.isAgg188
  z77 := Tryz.sizeOf188
  v77 := Tryz.zeroValue188 }
open Go.RowKit Go.Lib Go.Sort in
/-- slices.choosePivotCmpFunc at elements of one cell: THE LIBRARY's OWN TEXT COMPUTES 'Sort.choosePivot (ltOf cf) d a b'; the row is not turned. (After Derived/Shelf/SlSortFuncK/PivotK.lean, row for row; the counter's world by 'CntK'.) (LAID AT THE INSTANCE 'slices.choosePivotCmpFunc[[]int]': no walk: one application.) -/
theorem Tryz.choosePivotCmpFunc {α : Type} [Inhabited α] (enc : α → Value) (cf : α → α → Int) (g : Nat) (cb : Array Value) (blk off cap a b : Nat) (d0 d : Array α) (w0 W : World) (eg : ∀ args w, (callFunc g args).run Tryz.prog w = .ok (.enter g args) w) (hcmp : CmpLays1 Tryz.prog g cb enc cf blk off d0.size w0) (R : Row1 enc w0 blk off d0) (hs : d0.size = d.size) (S : SW enc w0 blk off d W) (hab : a < b) (hb : b ≤ d.size) (hsz : d.size < 4611686018427387904) :
    Calls Tryz.prog 160 #[.slice (some ⟨blk, off, none⟩) d.size cap, .int .i64 a, .int .i64 b, .func (.func g) #[] cb] W fun e w' =>
      e = .returned (.tuple #[.int .i64 (choosePivot (ltOf cf) d a b).1, .int .i64 (hintCode (choosePivot (ltOf cf) d a b).2)]) ∧ SW enc w0 blk off d w' := Any.choosePivotCmpFunc Tryz.laysSlF23_f160 enc cf g cb blk off cap a b d0 d w0 W eg hcmp R hs S hab hb hsz
def Tryz.laysSlF24_f161_ren : Go.Shelf.Ren := ⟨fun | 24 => 161 | n => n, fun | 24 => 30 | 22 => 47 | 3 => 3 | 25 => 101 | 4 => 4 | 0 => 0 | n => n, fun | n => n⟩
theorem Tryz.laysSlF24_f161 : Go.Proofs.SlLaysF.n24 Tryz.prog Tryz.laysSlF24_f161_ren := {
  mixed := by kernel_rfl
  f24 := ⟨Tryz.f161.name, by decide, Tryz.func161.trans (congrArg some (by kernel_rfl))⟩
  t0 := Tryz.underlying0
  a0 := Tryz.isAgg0
  z0 := Tryz.sizeOf0
  v0 := Tryz.zeroValue0
  t3 := Tryz.underlying3
  a3 := Tryz.isAgg3
  z3 := Tryz.sizeOf3
  v3 := Tryz.zeroValue3
  t4 := Tryz.underlying4
  a4 := Tryz.isAgg4
  z4 := Tryz.sizeOf4
  v4 := Tryz.zeroValue4
  t22 := Tryz.underlying47
  a22 := Tryz.isAgg47
  z22 := Tryz.sizeOf47
  v22 := Tryz.zeroValue47
  a24 := Tryz.isAgg30
  z24 := Tryz.sizeOf30
  t25 := Tryz.underlying101
  a25 := Tryz.isAgg101
  z25 := Tryz.sizeOf101
  v25 := Tryz.zeroValue101 }
open Go.RowKit Go.Lib Go.Sort in
/-- slices.reverseRangeCmpFunc at elements of one cell: it exchanges and does not compare. (LAID AT THE INSTANCE 'slices.reverseRangeCmpFunc[[]int]': no walk: one application.) -/
theorem Tryz.reverseRangeCmpFunc {α : Type} [Inhabited α] (enc : α → Value) (g : Nat) (cb : Array Value) (blk off cap a b : Nat) (d0 d : Array α) (w0 w : World) (R : Row1 enc w0 blk off d0) (hs : d0.size = d.size) (S : SW enc w0 blk off d w) (hab : a ≤ b) (hb : b ≤ d.size) (hsz : d.size < 4611686018427387904) :
    Calls Tryz.prog 161 #[.slice (some ⟨blk, off, none⟩) d.size cap, .int .i64 a, .int .i64 b, .func (.func g) #[] cb] w fun e w' => e = .returned (.tuple #[]) ∧ SW enc w0 blk off (reverseRange d a b) w' := Any.reverseRangeCmpFunc Tryz.laysSlF24_f161 enc g cb blk off cap a b d0 d w0 w R hs S hab hb hsz
def Tryz.laysSlF25_f162_ren : Go.Shelf.Ren := ⟨fun | 25 => 162 | n => n, fun | 24 => 30 | 22 => 47 | 3 => 3 | 25 => 101 | 4 => 4 | 0 => 0 | n => n, fun | n => n⟩
theorem Tryz.laysSlF25_f162 : Go.Proofs.SlLaysF.n25 Tryz.prog Tryz.laysSlF25_f162_ren := {
  mixed := by kernel_rfl
  f25 := ⟨Tryz.f162.name, by decide, Tryz.func162.trans (congrArg some (by kernel_rfl))⟩
  t0 := Tryz.underlying0
  a0 := Tryz.isAgg0
  z0 := Tryz.sizeOf0
  v0 := Tryz.zeroValue0
  t3 := Tryz.underlying3
  a3 := Tryz.isAgg3
  z3 := Tryz.sizeOf3
  v3 := Tryz.zeroValue3
  t4 := Tryz.underlying4
  a4 := Tryz.isAgg4
  z4 := Tryz.sizeOf4
  v4 := Tryz.zeroValue4
  t22 := Tryz.underlying47
  a22 := Tryz.isAgg47
  z22 := Tryz.sizeOf47
  v22 := Tryz.zeroValue47
  a24 := Tryz.isAgg30
  z24 := Tryz.sizeOf30
  t25 := Tryz.underlying101
  a25 := Tryz.isAgg101
  z25 := Tryz.sizeOf101
  v25 := Tryz.zeroValue101 }
open Go.RowKit Go.Lib Go.Sort in
/-- slices.partialInsertionSortCmpFunc at elements of one cell. (LAID AT THE INSTANCE 'slices.partialInsertionSortCmpFunc[[]int]': no walk: one application.) -/
theorem Tryz.partialInsertionSortCmpFunc {α : Type} [Inhabited α] (enc : α → Value) (cf : α → α → Int) (g : Nat) (cb : Array Value) (blk off cap a b : Nat) (d0 d : Array α) (w0 w : World) (eg : ∀ args w, (callFunc g args).run Tryz.prog w = .ok (.enter g args) w) (hcmp : CmpLays1 Tryz.prog g cb enc cf blk off d0.size w0) (R : Row1 enc w0 blk off d0) (hs : d0.size = d.size) (S : SW enc w0 blk off d w) (hab : a < b) (hb : b ≤ d.size) (hsz : d.size < 4611686018427387904) :
    Calls Tryz.prog 162 #[.slice (some ⟨blk, off, none⟩) d.size cap, .int .i64 a, .int .i64 b, .func (.func g) #[] cb] w fun e w' =>
      e = .returned (.bool (Sort.partialInsertionSort (ltOf cf) d a b).2) ∧ SW enc w0 blk off (Sort.partialInsertionSort (ltOf cf) d a b).1 w' := Any.partialInsertionSortCmpFunc Tryz.laysSlF25_f162 enc cf g cb blk off cap a b d0 d w0 w eg hcmp R hs S hab hb hsz
def Tryz.laysSlF26_f163_ren : Go.Shelf.Ren := ⟨fun | 26 => 163 | n => n, fun | 24 => 30 | 22 => 47 | 3 => 3 | 25 => 101 | 0 => 0 | 4 => 4 | n => n, fun | n => n⟩
theorem Tryz.laysSlF26_f163 : Go.Proofs.SlLaysF.n26 Tryz.prog Tryz.laysSlF26_f163_ren := {
  mixed := by kernel_rfl
  f26 := ⟨Tryz.f163.name, by decide, Tryz.func163.trans (congrArg some (by kernel_rfl))⟩
  t0 := Tryz.underlying0
  a0 := Tryz.isAgg0
  z0 := Tryz.sizeOf0
  v0 := Tryz.zeroValue0
  t3 := Tryz.underlying3
  a3 := Tryz.isAgg3
  z3 := Tryz.sizeOf3
  v3 := Tryz.zeroValue3
  t4 := Tryz.underlying4
  a4 := Tryz.isAgg4
  z4 := Tryz.sizeOf4
  v4 := Tryz.zeroValue4
  t22 := Tryz.underlying47
  a22 := Tryz.isAgg47
  z22 := Tryz.sizeOf47
  v22 := Tryz.zeroValue47
  a24 := Tryz.isAgg30
  z24 := Tryz.sizeOf30
  t25 := Tryz.underlying101
  a25 := Tryz.isAgg101
  z25 := Tryz.sizeOf101
  v25 := Tryz.zeroValue101 }
open Go.RowKit Go.Lib Go.Sort in
/-- slices.partitionEqualCmpFunc at elements of one cell. (After Derived/Shelf/SlSortFuncK/PartitionK.lean, row for row.) (LAID AT THE INSTANCE 'slices.partitionEqualCmpFunc[[]int]': no walk: one application.) -/
theorem Tryz.partitionEqualCmpFunc {α : Type} [Inhabited α] (enc : α → Value) (cf : α → α → Int) (g : Nat) (cb : Array Value) (blk off cap a b pivot : Nat) (d0 d : Array α) (w0 w : World) (eg : ∀ args w, (callFunc g args).run Tryz.prog w = .ok (.enter g args) w) (hcmp : CmpLays1 Tryz.prog g cb enc cf blk off d0.size w0) (R : Row1 enc w0 blk off d0) (hs : d0.size = d.size) (S : SW enc w0 blk off d w) (hap : a ≤ pivot) (hpb : pivot < b) (hb : b ≤ d.size) (hsz : d.size < 4611686018427387904) :
    Calls Tryz.prog 163 #[.slice (some ⟨blk, off, none⟩) d.size cap, .int .i64 a, .int .i64 b, .int .i64 pivot, .func (.func g) #[] cb] w fun e w' =>
      e = .returned (.int .i64 (Sort.partitionEqual (ltOf cf) d a b pivot).1) ∧ SW enc w0 blk off (Sort.partitionEqual (ltOf cf) d a b pivot).2 w' := Any.partitionEqualCmpFunc Tryz.laysSlF26_f163 enc cf g cb blk off cap a b pivot d0 d w0 w eg hcmp R hs S hap hpb hb hsz
def Tryz.laysSlF27_f164_ren : Go.Shelf.Ren := ⟨fun | 27 => 164 | n => n, fun | 24 => 30 | 22 => 47 | 3 => 3 | 25 => 101 | 4 => 4 | 0 => 0 | n => n, fun | n => n⟩
theorem Tryz.laysSlF27_f164 : Go.Proofs.SlLaysF.n27 Tryz.prog Tryz.laysSlF27_f164_ren := {
  mixed := by kernel_rfl
  f27 := ⟨Tryz.f164.name, by decide, Tryz.func164.trans (congrArg some (by kernel_rfl))⟩
  t0 := Tryz.underlying0
  a0 := Tryz.isAgg0
  z0 := Tryz.sizeOf0
  v0 := Tryz.zeroValue0
  t3 := Tryz.underlying3
  a3 := Tryz.isAgg3
  z3 := Tryz.sizeOf3
  v3 := Tryz.zeroValue3
  t4 := Tryz.underlying4
  a4 := Tryz.isAgg4
  z4 := Tryz.sizeOf4
  v4 := Tryz.zeroValue4
  t22 := Tryz.underlying47
  a22 := Tryz.isAgg47
  z22 := Tryz.sizeOf47
  v22 := Tryz.zeroValue47
  a24 := Tryz.isAgg30
  z24 := Tryz.sizeOf30
  t25 := Tryz.underlying101
  a25 := Tryz.isAgg101
  z25 := Tryz.sizeOf101
  v25 := Tryz.zeroValue101 }
open Go.RowKit Go.Lib Go.Sort in
/-- slices.partitionCmpFunc at elements of one cell. (After Derived/Shelf/SlSortFuncK/PartitionK.lean, row for row.) (LAID AT THE INSTANCE 'slices.partitionCmpFunc[[]int]': no walk: one application.) -/
theorem Tryz.partitionCmpFunc {α : Type} [Inhabited α] (enc : α → Value) (cf : α → α → Int) (g : Nat) (cb : Array Value) (blk off cap a b pivot : Nat) (d0 d : Array α) (w0 w : World) (eg : ∀ args w, (callFunc g args).run Tryz.prog w = .ok (.enter g args) w) (hcmp : CmpLays1 Tryz.prog g cb enc cf blk off d0.size w0) (R : Row1 enc w0 blk off d0) (hs : d0.size = d.size) (S : SW enc w0 blk off d w) (hap : a ≤ pivot) (hpb : pivot < b) (hb : b ≤ d.size) (hsz : d.size < 4611686018427387904) :
    Calls Tryz.prog 164 #[.slice (some ⟨blk, off, none⟩) d.size cap, .int .i64 a, .int .i64 b, .int .i64 pivot, .func (.func g) #[] cb] w fun e w' =>
      e = .returned (.tuple #[.int .i64 (Sort.partition (ltOf cf) d a b pivot).1, .bool (Sort.partition (ltOf cf) d a b pivot).2.1]) ∧ SW enc w0 blk off (Sort.partition (ltOf cf) d a b pivot).2.2 w' := Any.partitionCmpFunc Tryz.laysSlF27_f164 enc cf g cb blk off cap a b pivot d0 d w0 w eg hcmp R hs S hap hpb hb hsz
def Tryz.laysSlF14_f149_ren : Go.Shelf.Ren := ⟨fun | 14 => 149 | 20 => 157 | 21 => 158 | 22 => 159 | 23 => 160 | 24 => 161 | 25 => 162 | 26 => 163 | 27 => 164 | 46 => 170 | 47 => 171 | 48 => 172 | 49 => 173 | 50 => 174 | 15 => 150 | 57 => 175 | 28 => 165 | 29 => 166 | n => n, fun | 24 => 30 | 22 => 47 | 3 => 3 | 25 => 101 | 4 => 4 | 0 => 0 | 46 => 169 | 45 => 168 | 50 => 173 | 66 => 181 | 39 => 132 | 55 => 157 | 70 => 185 | 76 => 187 | 77 => 188 | 53 => 154 | 5 => 5 | 9 => 9 | n => n, fun | n => n⟩
theorem Tryz.laysSlF14_f149 : Go.Proofs.SlLaysF.n14 Tryz.prog Tryz.laysSlF14_f149_ren := {
  mixed := by kernel_rfl
  f14 := ⟨Tryz.f149.name, by decide, Tryz.func149.trans (congrArg some (by kernel_rfl))⟩
  f15 := Tryz.func150.trans (congrArg some (by kernel_rfl))
  f20 := ⟨Tryz.f157.name, by decide, Tryz.func157.trans (congrArg some (by kernel_rfl))⟩
  f21 := ⟨Tryz.f158.name, by decide, Tryz.func158.trans (congrArg some (by kernel_rfl))⟩
  f22 := ⟨Tryz.f159.name, by decide, Tryz.func159.trans (congrArg some (by kernel_rfl))⟩
  f23 := ⟨Tryz.f160.name, by decide, Tryz.func160.trans (congrArg some (by kernel_rfl))⟩
  f24 := ⟨Tryz.f161.name, by decide, Tryz.func161.trans (congrArg some (by kernel_rfl))⟩
  f25 := ⟨Tryz.f162.name, by decide, Tryz.func162.trans (congrArg some (by kernel_rfl))⟩
  f26 := ⟨Tryz.f163.name, by decide, Tryz.func163.trans (congrArg some (by kernel_rfl))⟩
  f27 := ⟨Tryz.f164.name, by decide, Tryz.func164.trans (congrArg some (by kernel_rfl))⟩
  f28 := Tryz.func165.trans (congrArg some (by kernel_rfl))
  f29 := Tryz.func166.trans (congrArg some (by kernel_rfl))
  f46 := ⟨Tryz.f170.name, by decide, Tryz.func170.trans (congrArg some (by kernel_rfl))⟩
  f47 := Tryz.func171.trans (congrArg some (by kernel_rfl))
  f48 := Tryz.func172.trans (congrArg some (by kernel_rfl))
  f49 := ⟨Tryz.f173.name, by decide, Tryz.func173.trans (congrArg some (by kernel_rfl))⟩
  f50 := ⟨Tryz.f174.name, by decide, Tryz.func174.trans (congrArg some (by kernel_rfl))⟩
  f57 := ⟨Tryz.f175.name, by decide, Tryz.func175.trans (congrArg some (by kernel_rfl))⟩
  t0 := Tryz.underlying0
  a0 := Tryz.isAgg0
  z0 := Tryz.sizeOf0
  v0 := Tryz.zeroValue0
  t3 := Tryz.underlying3
  a3 := Tryz.isAgg3
  z3 := Tryz.sizeOf3
  v3 := Tryz.zeroValue3
  t4 := Tryz.underlying4
  a4 := Tryz.isAgg4
  z4 := Tryz.sizeOf4
  v4 := Tryz.zeroValue4
  t5 := Tryz.underlying5
  a5 := Tryz.isAgg5
  z5 := Tryz.sizeOf5
  v5 := Tryz.zeroValue5
  t9 := Tryz.underlying9
  a9 := Tryz.isAgg9
  z9 := Tryz.sizeOf9
  v9 := Tryz.zeroValue9
  t22 := Tryz.underlying47
  a22 := Tryz.isAgg47
  z22 := Tryz.sizeOf47
  v22 := Tryz.zeroValue47
  a24 := Tryz.isAgg30
  z24 := Tryz.sizeOf30
  t25 := Tryz.underlying101
  a25 := Tryz.isAgg101
  z25 := Tryz.sizeOf101
  v25 := Tryz.zeroValue101
  t39 := Tryz.underlying132
  a39 := Tryz.isAgg132
  z39 := Tryz.sizeOf132
  v39 := Tryz.zeroValue132
  t45 := Tryz.underlying168
  a45 := Tryz.isAgg168
  z45 := Tryz.sizeOf168
  v45 := Tryz.zeroValue168
  t46 := Tryz.underlying169
  a46 := Tryz.isAgg169
  z46 := Tryz.sizeOf169
  v46 := Tryz.zeroValue169
  t50 := Tryz.underlying173
  a50 := Tryz.isAgg173
  z50 := Tryz.sizeOf173
  v50 := Tryz.zeroValue173
  t53 := Tryz.underlying154
  a53 := Tryz.isAgg154
  z53 := Tryz.sizeOf154
  v53 := Tryz.zeroValue154
  t55 := Tryz.underlying157
  a55 := Tryz.isAgg157
  z55 := Tryz.sizeOf157
  v55 := Tryz.zeroValue157
  t66 := Tryz.underlying181
  a66 := Tryz.isAgg181
  z66 := Tryz.sizeOf181
  v66 := Tryz.zeroValue181
  t70 := Tryz.underlying185
  a70 := Tryz.isAgg185
  z70 := Tryz.sizeOf185
  v70 := Tryz.zeroValue185
  t76 := Tryz.underlying187
  a76 := Tryz.isAgg187
  z76 := Tryz.sizeOf187
  v76 := Tryz.zeroValue187
  t77 := Tryz.underlying188
  a77 := Tryz.isAgg188
  z77 := Tryz.sizeOf188
  v77 := Tryz.zeroValue188 }
open Go.RowKit Go.Lib Go.Sort in
/-- slices.pdqsortCmpFunc at elements of one cell, WHOLE. (After Derived/Shelf/SlSortFuncK/PdqK.lean, row for row: the slots and the regions' numbers are this body's.) (LAID AT THE INSTANCE 'slices.pdqsortCmpFunc[[]int]': no walk: one application.) -/
theorem Tryz.pdqsortCmpFunc_all {α : Type} [Inhabited α] (enc : α → Value) (cf : α → α → Int) (g : Nat) (cb : Array Value) (hO : SWO (ltOf cf)) (blk off cap : Nat) (d0 : Array α) (w0 : World) (eg : ∀ args w, (callFunc g args).run Tryz.prog w = .ok (.enter g args) w) (hcmp : CmpLays1 Tryz.prog g cb enc cf blk off d0.size w0) (R : Row1 enc w0 blk off d0) :
    ∀ (N a b limit : Nat) (d : Array α) (w : World), b - a < N → d0.size = d.size → SW enc w0 blk off d w → a ≤ b → b ≤ d.size → d.size < 4611686018427387904 → limit < 4611686018427387904 → Below (ltOf cf) a b d →
    Calls Tryz.prog 149 #[.slice (some ⟨blk, off, none⟩) d.size cap, .int .i64 a, .int .i64 b, .int .i64 limit, .func (.func g) #[] cb] w fun e w' => e = .returned (.tuple #[]) ∧ SW enc w0 blk off (pdq (ltOf cf) d a b limit true true) w' := Any.pdqsortCmpFunc_all Tryz.laysSlF14_f149 enc cf g cb hO blk off cap d0 w0 eg hcmp R
def Tryz.laysSlF6_f131_ren : Go.Shelf.Ren := ⟨fun | 6 => 131 | 15 => 150 | 14 => 149 | 28 => 165 | 29 => 166 | 20 => 157 | 21 => 158 | 22 => 159 | 23 => 160 | 24 => 161 | 25 => 162 | 26 => 163 | 27 => 164 | 46 => 170 | 47 => 171 | 48 => 172 | 49 => 173 | 50 => 174 | 57 => 175 | n => n, fun | 22 => 47 | 24 => 30 | 25 => 101 | 3 => 3 | 39 => 132 | 0 => 0 | 53 => 154 | 55 => 157 | 4 => 4 | 46 => 169 | 45 => 168 | 50 => 173 | 5 => 5 | 9 => 9 | 66 => 181 | 70 => 185 | 76 => 187 | 77 => 188 | n => n, fun | n => n⟩
theorem Tryz.laysSlF6_f131 : Go.Proofs.SlLaysF.n6 Tryz.prog Tryz.laysSlF6_f131_ren := {
  mixed := by kernel_rfl
  f6 := ⟨Tryz.f131.name, by decide, Tryz.func131.trans (congrArg some (by kernel_rfl))⟩
  f14 := ⟨Tryz.f149.name, by decide, Tryz.func149.trans (congrArg some (by kernel_rfl))⟩
  f15 := Tryz.func150.trans (congrArg some (by kernel_rfl))
  f20 := ⟨Tryz.f157.name, by decide, Tryz.func157.trans (congrArg some (by kernel_rfl))⟩
  f21 := ⟨Tryz.f158.name, by decide, Tryz.func158.trans (congrArg some (by kernel_rfl))⟩
  f22 := ⟨Tryz.f159.name, by decide, Tryz.func159.trans (congrArg some (by kernel_rfl))⟩
  f23 := ⟨Tryz.f160.name, by decide, Tryz.func160.trans (congrArg some (by kernel_rfl))⟩
  f24 := ⟨Tryz.f161.name, by decide, Tryz.func161.trans (congrArg some (by kernel_rfl))⟩
  f25 := ⟨Tryz.f162.name, by decide, Tryz.func162.trans (congrArg some (by kernel_rfl))⟩
  f26 := ⟨Tryz.f163.name, by decide, Tryz.func163.trans (congrArg some (by kernel_rfl))⟩
  f27 := ⟨Tryz.f164.name, by decide, Tryz.func164.trans (congrArg some (by kernel_rfl))⟩
  f28 := Tryz.func165.trans (congrArg some (by kernel_rfl))
  f29 := Tryz.func166.trans (congrArg some (by kernel_rfl))
  f46 := ⟨Tryz.f170.name, by decide, Tryz.func170.trans (congrArg some (by kernel_rfl))⟩
  f47 := Tryz.func171.trans (congrArg some (by kernel_rfl))
  f48 := Tryz.func172.trans (congrArg some (by kernel_rfl))
  f49 := ⟨Tryz.f173.name, by decide, Tryz.func173.trans (congrArg some (by kernel_rfl))⟩
  f50 := ⟨Tryz.f174.name, by decide, Tryz.func174.trans (congrArg some (by kernel_rfl))⟩
  f57 := ⟨Tryz.f175.name, by decide, Tryz.func175.trans (congrArg some (by kernel_rfl))⟩
  t0 := Tryz.underlying0
  a0 := Tryz.isAgg0
  z0 := Tryz.sizeOf0
  v0 := Tryz.zeroValue0
  t3 := Tryz.underlying3
  a3 := Tryz.isAgg3
  z3 := Tryz.sizeOf3
  v3 := Tryz.zeroValue3
  t4 := Tryz.underlying4
  a4 := Tryz.isAgg4
  z4 := Tryz.sizeOf4
  v4 := Tryz.zeroValue4
  t5 := Tryz.underlying5
  a5 := Tryz.isAgg5
  z5 := Tryz.sizeOf5
  v5 := Tryz.zeroValue5
  t9 := Tryz.underlying9
  a9 := Tryz.isAgg9
  z9 := Tryz.sizeOf9
  v9 := Tryz.zeroValue9
  t22 := Tryz.underlying47
  a22 := Tryz.isAgg47
  z22 := Tryz.sizeOf47
  v22 := Tryz.zeroValue47
  a24 := Tryz.isAgg30
  z24 := Tryz.sizeOf30
  t25 := Tryz.underlying101
  a25 := Tryz.isAgg101
  z25 := Tryz.sizeOf101
  v25 := Tryz.zeroValue101
  t39 := Tryz.underlying132
  a39 := Tryz.isAgg132
  z39 := Tryz.sizeOf132
  v39 := Tryz.zeroValue132
  t45 := Tryz.underlying168
  a45 := Tryz.isAgg168
  z45 := Tryz.sizeOf168
  v45 := Tryz.zeroValue168
  t46 := Tryz.underlying169
  a46 := Tryz.isAgg169
  z46 := Tryz.sizeOf169
  v46 := Tryz.zeroValue169
  t50 := Tryz.underlying173
  a50 := Tryz.isAgg173
  z50 := Tryz.sizeOf173
  v50 := Tryz.zeroValue173
  t53 := Tryz.underlying154
  a53 := Tryz.isAgg154
  z53 := Tryz.sizeOf154
  v53 := Tryz.zeroValue154
  t55 := Tryz.underlying157
  a55 := Tryz.isAgg157
  z55 := Tryz.sizeOf157
  v55 := Tryz.zeroValue157
  t66 := Tryz.underlying181
  a66 := Tryz.isAgg181
  z66 := Tryz.sizeOf181
  v66 := Tryz.zeroValue181
  t70 := Tryz.underlying185
  a70 := Tryz.isAgg185
  z70 := Tryz.sizeOf185
  v70 := Tryz.zeroValue185
  t76 := Tryz.underlying187
  a76 := Tryz.isAgg187
  z76 := Tryz.sizeOf187
  v76 := Tryz.zeroValue187
  t77 := Tryz.underlying188
  a77 := Tryz.isAgg188
  z77 := Tryz.sizeOf188
  v77 := Tryz.zeroValue188 }
open Go.RowKit Go.Lib Go.Sort in
/-- **slices.SortFunc: WHAT THE ROW HOLDS, TO THE ELEMENT.** (LAID AT THE INSTANCE 'slices.SortFunc[[][]int,[]int]': no walk: one application.) -/
theorem Tryz.slices_SortFunc_eq {α : Type} [Inhabited α] (enc : α → Value) (h1 : OneCell enc) (cf : α → α → Int) (hO : SWO (ltOf cf)) (g : Nat) (cb : Array Value) (blk off cap : Nat) (d : Array α) (w : World) (eg : ∀ args w, (callFunc g args).run Tryz.prog w = .ok (.enter g args) w) (hcmp : CmpLays1 Tryz.prog g cb enc cf blk off d.size w) (hH : Holds enc w blk off d) (hblk : blk < w.heap.size) (hsz : d.size < 4611686018427387904) :
    Calls Tryz.prog 131 #[.slice (some ⟨blk, off, none⟩) d.size cap, .func (.func g) #[] cb] w fun e w' =>
      e = .returned (.tuple #[]) ∧ ∃ n os, w' = sortWorld enc w blk off n (pdq (ltOf cf) d 0 d.size (Lib.bitLen d.size) true true) os := Any.slices_SortFunc_eq Tryz.laysSlF6_f131 enc h1 cf hO g cb blk off cap d w eg hcmp hH hblk hsz
open Go.RowKit Go.Lib Go.Sort in
/-- **slices.SortFunc, IN THE DOCUMENTATION's OWN TERMS: A PERMUTATION OF WHAT THE ROW HELD, SORTED BY 'cmp(a, b) < 0'.** Which of two equals comes first is left open ("The sort is not guaranteed to be stable"). (LAID AT THE INSTANCE 'slices.SortFunc[[][]int,[]int]': no walk: one application.) -/
theorem Tryz.slices_SortFunc {α : Type} [Inhabited α] (enc : α → Value) (h1 : OneCell enc) (cf : α → α → Int) (hO : SWO (ltOf cf)) (g : Nat) (cb : Array Value) (blk off cap : Nat) (d : Array α) (w : World) (eg : ∀ args w, (callFunc g args).run Tryz.prog w = .ok (.enter g args) w) (hcmp : CmpLays1 Tryz.prog g cb enc cf blk off d.size w) (hH : Holds enc w blk off d) (hblk : blk < w.heap.size) (hsz : d.size < 4611686018427387904) :
    Calls Tryz.prog 131 #[.slice (some ⟨blk, off, none⟩) d.size cap, .func (.func g) #[] cb] w fun e w' =>
      e = .returned (.tuple #[]) ∧ ∃ d' n os, PermIn 0 d.size d d' ∧ SortedIn (ltOf cf) 0 d.size d' ∧ w' = sortWorld enc w blk off n d' os := Any.slices_SortFunc Tryz.laysSlF6_f131 enc h1 cf hO g cb blk off cap d w eg hcmp hH hblk hsz
def Tryz.laysSlF020_f157_ren : Go.Shelf.Ren := ⟨fun | 20 => 157 | n => n, fun | 24 => 30 | 22 => 47 | 3 => 3 | 25 => 101 | 4 => 4 | 0 => 0 | n => n, fun | n => n⟩
theorem Tryz.laysSlF020_f157 : Go.Proofs.SlLaysF0.n20 Tryz.prog Tryz.laysSlF020_f157_ren := {
  mixed := by kernel_rfl
  f20 := ⟨Tryz.f157.name, by decide, Tryz.func157.trans (congrArg some (by kernel_rfl))⟩
  t0 := Tryz.underlying0
  a0 := Tryz.isAgg0
  z0 := Tryz.sizeOf0
  v0 := Tryz.zeroValue0
  t3 := Tryz.underlying3
  a3 := Tryz.isAgg3
  z3 := Tryz.sizeOf3
  v3 := Tryz.zeroValue3
  t4 := Tryz.underlying4
  a4 := Tryz.isAgg4
  z4 := Tryz.sizeOf4
  v4 := Tryz.zeroValue4
  t22 := Tryz.underlying47
  a22 := Tryz.isAgg47
  z22 := Tryz.sizeOf47
  v22 := Tryz.zeroValue47
  t25 := Tryz.underlying101
  a25 := Tryz.isAgg101
  z25 := Tryz.sizeOf101
  v25 := Tryz.zeroValue101 }
open Go.RowKit Go.Lib Go.Sort in
theorem Tryz.insertionSortCmpFunc_none {α : Type} [Inhabited α] (p : Option Addr) (cap : Nat) (fv : Value) (w : World) :
    Calls Tryz.prog 157 #[.slice p 0 cap, .int .i64 0, .int .i64 0, fv] w fun e w' => e = .returned (.tuple #[]) ∧ w' = w := AnyF.insertionSortCmpFunc_none Tryz.laysSlF020_f157 p cap fv w
def Tryz.laysSlF014_f149_ren : Go.Shelf.Ren := ⟨fun | 14 => 149 | 20 => 157 | 21 => 158 | 22 => 159 | 23 => 160 | 24 => 161 | 25 => 162 | 26 => 163 | 27 => 164 | 46 => 170 | 47 => 171 | 48 => 172 | 49 => 173 | 50 => 174 | 15 => 150 | 57 => 175 | 28 => 165 | 29 => 166 | n => n, fun | 24 => 30 | 22 => 47 | 3 => 3 | 25 => 101 | 4 => 4 | 0 => 0 | 46 => 169 | 45 => 168 | 50 => 173 | 66 => 181 | 39 => 132 | 55 => 157 | 70 => 185 | 76 => 187 | 77 => 188 | 53 => 154 | 5 => 5 | 9 => 9 | n => n, fun | n => n⟩
theorem Tryz.laysSlF014_f149 : Go.Proofs.SlLaysF0.n14 Tryz.prog Tryz.laysSlF014_f149_ren := {
  mixed := by kernel_rfl
  f14 := ⟨Tryz.f149.name, by decide, Tryz.func149.trans (congrArg some (by kernel_rfl))⟩
  f15 := Tryz.func150.trans (congrArg some (by kernel_rfl))
  f20 := ⟨Tryz.f157.name, by decide, Tryz.func157.trans (congrArg some (by kernel_rfl))⟩
  f21 := ⟨Tryz.f158.name, by decide, Tryz.func158.trans (congrArg some (by kernel_rfl))⟩
  f22 := ⟨Tryz.f159.name, by decide, Tryz.func159.trans (congrArg some (by kernel_rfl))⟩
  f23 := ⟨Tryz.f160.name, by decide, Tryz.func160.trans (congrArg some (by kernel_rfl))⟩
  f24 := ⟨Tryz.f161.name, by decide, Tryz.func161.trans (congrArg some (by kernel_rfl))⟩
  f25 := ⟨Tryz.f162.name, by decide, Tryz.func162.trans (congrArg some (by kernel_rfl))⟩
  f26 := ⟨Tryz.f163.name, by decide, Tryz.func163.trans (congrArg some (by kernel_rfl))⟩
  f27 := ⟨Tryz.f164.name, by decide, Tryz.func164.trans (congrArg some (by kernel_rfl))⟩
  f28 := Tryz.func165.trans (congrArg some (by kernel_rfl))
  f29 := Tryz.func166.trans (congrArg some (by kernel_rfl))
  f46 := ⟨Tryz.f170.name, by decide, Tryz.func170.trans (congrArg some (by kernel_rfl))⟩
  f47 := Tryz.func171.trans (congrArg some (by kernel_rfl))
  f48 := Tryz.func172.trans (congrArg some (by kernel_rfl))
  f49 := ⟨Tryz.f173.name, by decide, Tryz.func173.trans (congrArg some (by kernel_rfl))⟩
  f50 := ⟨Tryz.f174.name, by decide, Tryz.func174.trans (congrArg some (by kernel_rfl))⟩
  f57 := ⟨Tryz.f175.name, by decide, Tryz.func175.trans (congrArg some (by kernel_rfl))⟩
  t0 := Tryz.underlying0
  a0 := Tryz.isAgg0
  z0 := Tryz.sizeOf0
  v0 := Tryz.zeroValue0
  t3 := Tryz.underlying3
  a3 := Tryz.isAgg3
  z3 := Tryz.sizeOf3
  v3 := Tryz.zeroValue3
  t4 := Tryz.underlying4
  a4 := Tryz.isAgg4
  z4 := Tryz.sizeOf4
  v4 := Tryz.zeroValue4
  t5 := Tryz.underlying5
  a5 := Tryz.isAgg5
  z5 := Tryz.sizeOf5
  v5 := Tryz.zeroValue5
  t9 := Tryz.underlying9
  a9 := Tryz.isAgg9
  z9 := Tryz.sizeOf9
  v9 := Tryz.zeroValue9
  t22 := Tryz.underlying47
  a22 := Tryz.isAgg47
  z22 := Tryz.sizeOf47
  v22 := Tryz.zeroValue47
  t25 := Tryz.underlying101
  a25 := Tryz.isAgg101
  z25 := Tryz.sizeOf101
  v25 := Tryz.zeroValue101
  t39 := Tryz.underlying132
  a39 := Tryz.isAgg132
  z39 := Tryz.sizeOf132
  v39 := Tryz.zeroValue132
  t45 := Tryz.underlying168
  a45 := Tryz.isAgg168
  z45 := Tryz.sizeOf168
  v45 := Tryz.zeroValue168
  t46 := Tryz.underlying169
  a46 := Tryz.isAgg169
  z46 := Tryz.sizeOf169
  v46 := Tryz.zeroValue169
  t50 := Tryz.underlying173
  a50 := Tryz.isAgg173
  z50 := Tryz.sizeOf173
  v50 := Tryz.zeroValue173
  t53 := Tryz.underlying154
  a53 := Tryz.isAgg154
  z53 := Tryz.sizeOf154
  v53 := Tryz.zeroValue154
  t55 := Tryz.underlying157
  a55 := Tryz.isAgg157
  z55 := Tryz.sizeOf157
  v55 := Tryz.zeroValue157
  t66 := Tryz.underlying181
  a66 := Tryz.isAgg181
  z66 := Tryz.sizeOf181
  v66 := Tryz.zeroValue181
  t70 := Tryz.underlying185
  a70 := Tryz.isAgg185
  z70 := Tryz.sizeOf185
  v70 := Tryz.zeroValue185
  t76 := Tryz.underlying187
  a76 := Tryz.isAgg187
  z76 := Tryz.sizeOf187
  v76 := Tryz.zeroValue187
  t77 := Tryz.underlying188
  a77 := Tryz.isAgg188
  z77 := Tryz.sizeOf188
  v77 := Tryz.zeroValue188 }
open Go.RowKit Go.Lib Go.Sort in
theorem Tryz.pdqsortCmpFunc_none {α : Type} [Inhabited α] (p : Option Addr) (cap : Nat) (lim : Int) (fv : Value) (w : World) :
    Calls Tryz.prog 149 #[.slice p 0 cap, .int .i64 0, .int .i64 0, .int .i64 lim, fv] w fun e w' => e = .returned (.tuple #[]) ∧ w' = w := AnyF.pdqsortCmpFunc_none Tryz.laysSlF014_f149 p cap lim fv w
def Tryz.laysSlF06_f131_ren : Go.Shelf.Ren := ⟨fun | 6 => 131 | 15 => 150 | 14 => 149 | 28 => 165 | 29 => 166 | 20 => 157 | 21 => 158 | 22 => 159 | 23 => 160 | 24 => 161 | 25 => 162 | 26 => 163 | 27 => 164 | 46 => 170 | 47 => 171 | 48 => 172 | 49 => 173 | 50 => 174 | 57 => 175 | n => n, fun | 22 => 47 | 24 => 30 | 25 => 101 | 3 => 3 | 39 => 132 | 0 => 0 | 53 => 154 | 55 => 157 | 4 => 4 | 46 => 169 | 45 => 168 | 50 => 173 | 5 => 5 | 9 => 9 | 66 => 181 | 70 => 185 | 76 => 187 | 77 => 188 | n => n, fun | n => n⟩
theorem Tryz.laysSlF06_f131 : Go.Proofs.SlLaysF0.n6 Tryz.prog Tryz.laysSlF06_f131_ren := {
  mixed := by kernel_rfl
  f6 := ⟨Tryz.f131.name, by decide, Tryz.func131.trans (congrArg some (by kernel_rfl))⟩
  f14 := ⟨Tryz.f149.name, by decide, Tryz.func149.trans (congrArg some (by kernel_rfl))⟩
  f15 := Tryz.func150.trans (congrArg some (by kernel_rfl))
  f20 := ⟨Tryz.f157.name, by decide, Tryz.func157.trans (congrArg some (by kernel_rfl))⟩
  f21 := ⟨Tryz.f158.name, by decide, Tryz.func158.trans (congrArg some (by kernel_rfl))⟩
  f22 := ⟨Tryz.f159.name, by decide, Tryz.func159.trans (congrArg some (by kernel_rfl))⟩
  f23 := ⟨Tryz.f160.name, by decide, Tryz.func160.trans (congrArg some (by kernel_rfl))⟩
  f24 := ⟨Tryz.f161.name, by decide, Tryz.func161.trans (congrArg some (by kernel_rfl))⟩
  f25 := ⟨Tryz.f162.name, by decide, Tryz.func162.trans (congrArg some (by kernel_rfl))⟩
  f26 := ⟨Tryz.f163.name, by decide, Tryz.func163.trans (congrArg some (by kernel_rfl))⟩
  f27 := ⟨Tryz.f164.name, by decide, Tryz.func164.trans (congrArg some (by kernel_rfl))⟩
  f28 := Tryz.func165.trans (congrArg some (by kernel_rfl))
  f29 := Tryz.func166.trans (congrArg some (by kernel_rfl))
  f46 := ⟨Tryz.f170.name, by decide, Tryz.func170.trans (congrArg some (by kernel_rfl))⟩
  f47 := Tryz.func171.trans (congrArg some (by kernel_rfl))
  f48 := Tryz.func172.trans (congrArg some (by kernel_rfl))
  f49 := ⟨Tryz.f173.name, by decide, Tryz.func173.trans (congrArg some (by kernel_rfl))⟩
  f50 := ⟨Tryz.f174.name, by decide, Tryz.func174.trans (congrArg some (by kernel_rfl))⟩
  f57 := ⟨Tryz.f175.name, by decide, Tryz.func175.trans (congrArg some (by kernel_rfl))⟩
  t0 := Tryz.underlying0
  a0 := Tryz.isAgg0
  z0 := Tryz.sizeOf0
  v0 := Tryz.zeroValue0
  t3 := Tryz.underlying3
  a3 := Tryz.isAgg3
  z3 := Tryz.sizeOf3
  v3 := Tryz.zeroValue3
  t4 := Tryz.underlying4
  a4 := Tryz.isAgg4
  z4 := Tryz.sizeOf4
  v4 := Tryz.zeroValue4
  t5 := Tryz.underlying5
  a5 := Tryz.isAgg5
  z5 := Tryz.sizeOf5
  v5 := Tryz.zeroValue5
  t9 := Tryz.underlying9
  a9 := Tryz.isAgg9
  z9 := Tryz.sizeOf9
  v9 := Tryz.zeroValue9
  t22 := Tryz.underlying47
  a22 := Tryz.isAgg47
  z22 := Tryz.sizeOf47
  v22 := Tryz.zeroValue47
  t25 := Tryz.underlying101
  a25 := Tryz.isAgg101
  z25 := Tryz.sizeOf101
  v25 := Tryz.zeroValue101
  t39 := Tryz.underlying132
  a39 := Tryz.isAgg132
  z39 := Tryz.sizeOf132
  v39 := Tryz.zeroValue132
  t45 := Tryz.underlying168
  a45 := Tryz.isAgg168
  z45 := Tryz.sizeOf168
  v45 := Tryz.zeroValue168
  t46 := Tryz.underlying169
  a46 := Tryz.isAgg169
  z46 := Tryz.sizeOf169
  v46 := Tryz.zeroValue169
  t50 := Tryz.underlying173
  a50 := Tryz.isAgg173
  z50 := Tryz.sizeOf173
  v50 := Tryz.zeroValue173
  t53 := Tryz.underlying154
  a53 := Tryz.isAgg154
  z53 := Tryz.sizeOf154
  v53 := Tryz.zeroValue154
  t55 := Tryz.underlying157
  a55 := Tryz.isAgg157
  z55 := Tryz.sizeOf157
  v55 := Tryz.zeroValue157
  t66 := Tryz.underlying181
  a66 := Tryz.isAgg181
  z66 := Tryz.sizeOf181
  v66 := Tryz.zeroValue181
  t70 := Tryz.underlying185
  a70 := Tryz.isAgg185
  z70 := Tryz.sizeOf185
  v70 := Tryz.zeroValue185
  t76 := Tryz.underlying187
  a76 := Tryz.isAgg187
  z76 := Tryz.sizeOf187
  v76 := Tryz.zeroValue187
  t77 := Tryz.underlying188
  a77 := Tryz.isAgg188
  z77 := Tryz.sizeOf188
  v77 := Tryz.zeroValue188 }
open Go.RowKit Go.Lib Go.Sort in
/-- **slices.SortFunc AT NO ELEMENT, A nil SLICE TOO: nothing turns.** (LAID AT THE INSTANCE 'slices.SortFunc[[][]int,[]int]': no walk: one application.) -/
theorem Tryz.slices_SortFunc_none {α : Type} [Inhabited α] (p : Option Addr) (cap : Nat) (fv : Value) (w : World) :
    Calls Tryz.prog 131 #[.slice p 0 cap, fv] w fun e w' => e = .returned (.tuple #[]) ∧ w' = w := AnyF.slices_SortFunc_none Tryz.laysSlF06_f131 p cap fv w
open Go.RowKit Go.Lib Go.Sort in
/-- **slices.SortFunc AT ONE CELL, UNDER A 'cmp' THAT PARTS WHATEVER TWO THAT ARE NOT ONE: THE ROW HOLDS core's 'mergeSort'.** (LAID AT THE INSTANCE 'slices.SortFunc[[][]int,[]int]': no walk: one application.) -/
theorem Tryz.slices_SortFunc_total {α : Type} [Inhabited α] (enc : α → Value) (h1 : OneCell enc) (cf : α → α → Int) (hO : SWO (ltOf cf)) (g : Nat) (cb : Array Value) (blk off cap : Nat) (d : Array α) (w : World) (eg : ∀ args w, (callFunc g args).run Tryz.prog w = .ok (.enter g args) w) (hcmp : CmpLays1 Tryz.prog g cb enc cf blk off d.size w) (hH : Holds enc w blk off d) (hblk : blk < w.heap.size) (hsz : d.size < 4611686018427387904) (hT : ∀ x y, (ltOf cf) x y = false → (ltOf cf) y x = false → x = y) :
    Calls Tryz.prog 131 #[.slice (some ⟨blk, off, none⟩) d.size cap, .func (.func g) #[] cb] w fun e w' =>
      e = .returned (.tuple #[]) ∧ ∃ n os, w' = sortWorld enc w blk off n (d.toList.mergeSort fun x y => !(ltOf cf) y x).toArray os := Any.slices_SortFunc_total Tryz.laysSlF6_f131 enc h1 cf hO g cb blk off cap d w eg hcmp hH hblk hsz hT
end Go.Proofs

/- Contracts: comparing rows of ints. -/
namespace Go.Proofs.YtkipgbgkhffkkaaGreat
open Go.RowKit
set_option linter.unusedVariables false
set_option linter.unusedSimpArgs false

/-- Rows in the order of dictionaries: -1, 0, 1. -/
def cmpRows : List Int → List Int → Int
  | [], [] => 0
  | [], _ :: _ => -1
  | _ :: _, [] => 1
  | x :: xs, y :: ys => if x < y then -1 else if y < x then 1 else cmpRows xs ys
theorem cmpRows_rng : ∀ (a b : List Int), cmpRows a b = -1 ∨ cmpRows a b = 0 ∨ cmpRows a b = 1
  | [], [] => by simp [cmpRows]
  | [], _ :: _ => by simp [cmpRows]
  | _ :: _, [] => by simp [cmpRows]
  | x :: xs, y :: ys => by
    rw [cmpRows]
    split
    · exact .inl rfl
    · split
      · exact .inr (.inr rfl)
      · exact cmpRows_rng xs ys
theorem cmpRows_zero : ∀ (a b : List Int), cmpRows a b = 0 ↔ a = b
  | [], [] => by simp [cmpRows]
  | [], _ :: _ => by simp [cmpRows]
  | _ :: _, [] => by simp [cmpRows]
  | x :: xs, y :: ys => by
    rw [cmpRows]
    split
    · constructor
      · intro h; simp at h
      · intro h; simp at h; omega
    · split
      · constructor
        · intro h; simp at h
        · intro h; simp at h; omega
      · rw [cmpRows_zero xs ys]
        have : x = y := by omega
        simp [this]
theorem cmpRows_self (a : List Int) : cmpRows a a = 0 := (cmpRows_zero a a).2 rfl
theorem cmpRows_swap : ∀ (a b : List Int), cmpRows b a = - cmpRows a b
  | [], [] => by simp [cmpRows]
  | [], _ :: _ => by simp [cmpRows]
  | _ :: _, [] => by simp [cmpRows]
  | x :: xs, y :: ys => by
    rw [cmpRows, cmpRows]
    have ih := cmpRows_swap xs ys
    by_cases h1 : x < y
    · have h2 : ¬ y < x := by omega
      simp [h1, h2]
    · by_cases h2 : y < x
      · simp [h1, h2]
      · simp [h1, h2, ih]
theorem cmpRows_trans : ∀ (a b c : List Int), cmpRows a b = -1 → cmpRows b c = -1 → cmpRows a c = -1
  | [], [], c, h, _ => by simp [cmpRows] at h
  | [], _ :: _, [], _, h => by simp [cmpRows] at h
  | [], _ :: _, _ :: _, _, _ => by simp [cmpRows]
  | _ :: _, [], c, h, _ => by simp [cmpRows] at h
  | _ :: _, _ :: _, [], _, h => by simp [cmpRows] at h
  | x :: xs, y :: ys, z :: zs, h1, h2 => by
    rw [cmpRows] at h1 h2 ⊢
    by_cases hxy : x < y
    · by_cases hyz : y < z
      · rw [if_pos (by omega)]
      · rw [if_neg hyz] at h2
        by_cases hzy : z < y
        · rw [if_pos hzy] at h2; simp at h2
        · rw [if_pos (by omega)]
    · rw [if_neg hxy] at h1
      by_cases hyx : y < x
      · rw [if_pos hyx] at h1; simp at h1
      · rw [if_neg hyx] at h1
        have : x = y := by omega
        subst this
        by_cases hyz : x < z
        · rw [if_pos hyz]
        · rw [if_neg hyz] at h2 ⊢
          by_cases hzy : z < x
          · rw [if_pos hzy] at h2; simp at h2
          · rw [if_neg hzy] at h2 ⊢
            exact cmpRows_trans xs ys zs h1 h2

theorem cmp_lt {x y : Int} {a b : List Int} (h : x < y) : cmpRows (x :: a) (y :: b) = -1 := by rw [cmpRows, if_pos h]
theorem cmp_gt {x y : Int} {a b : List Int} (h : y < x) : cmpRows (x :: a) (y :: b) = 1 := by rw [cmpRows, if_neg (by omega), if_pos h]
theorem cmp_eq {x y : Int} {a b : List Int} (h : x = y) : cmpRows (x :: a) (y :: b) = cmpRows a b := by subst h; rw [cmpRows, if_neg (by omega), if_neg (by omega)]

set_option maxHeartbeats 800000 in
theorem cmp_spec (a b : Option Addr) (n m cap cap' : Nat) (xs ys : List Int) (w : World) (h : Ints w a n xs) (h' : Ints w b m ys) :
    Calls Tryz.prog 76 #[.slice a n cap, .slice b m cap'] w fun e w' => e = .returned (.int .i64 (cmpRows xs ys)) ∧ Drew w w' := by
  have hn := h.small
  have hm := h'.small
  have hl := h.len
  have hl' := h'.len
  go_enter Tryz.func76, Tryz.ntmps76
  go_wp2
  go_loopw [5] (fun i wr => ∃ j : Nat, j ≤ n ∧ j ≤ m ∧ i = .int .i64 j ∧ Hid (cmpRows xs ys = cmpRows (xs.drop j) (ys.drop j)) ∧ Drew w wr) (fun i _ => n - (intOf i).toNat)
  case atStart => exact ⟨0, Nat.zero_le _, Nat.zero_le _, rfl, rfl, Drew.refl _⟩
  case round =>
    obtain ⟨j, hj, hjm, rfl, hE, hdr⟩ := hrel
    replace h := h.drew hdr
    replace h' := h'.drew hdr
    by_cases hlt : j < n
    · by_cases hlm : j < m
      · obtain ⟨b1, o1, x, rfl, hc1, hx, _, _⟩ := h.get hlt
        obtain ⟨b2, o2, y, rfl, hc2, hy, _, _⟩ := h'.get hlm
        have HD := Lib.hid (show cmpRows xs ys = cmpRows (x :: xs.drop (j + 1)) (y :: ys.drop (j + 1)) by rw [hE.out, h.drop hlt hx, h'.drop hlm hy])
        clear hl hl' h h'
        by_cases h1 : x < y
        · have HE := Lib.hid (HD.out.trans (cmp_lt h1))
          go_wp2
          go_quiet (fail)
          go_wp2
          go_ret
          exact ⟨ret_int HE.out.symm, by first | exact hdr.step _ | exact (hdr.step _).step _⟩
        · by_cases h2 : y < x
          · have HE := Lib.hid (HD.out.trans (cmp_gt h2))
            go_wp2
            go_quiet (fail)
            go_wp2
            go_quiet (fail)
            go_wp2
            go_ret
            exact ⟨ret_int HE.out.symm, by first | exact hdr.step _ | exact (hdr.step _).step _⟩
          · have HE := Lib.hid (HD.out.trans (cmp_eq (show x = y by omega)))
            go_wp2
            go_quiet (fail)
            go_wp2
            go_quiet (fail)
            go_wp2
            go_roundw
            case rel => exact ⟨j + 1, by omega, by omega, by go_num, HE.out, by first | exact hdr.step _ | exact (hdr.step _).step _⟩
            case measure => simp [intOf]; omega
      · -- the second is at its end
        have HE := Lib.hid (show cmpRows xs ys = 1 by
          rw [hE.out, List.drop_of_length_le (l := ys) (by omega), drop_cons xs j (by omega)]; rfl)
        have hmn : m < n := by omega
        clear hl hl' h h'
        go_wp2
        go_ret
        exact ⟨ret_int HE.out.symm, hdr⟩
    · obtain rfl : j = n := by omega
      by_cases hlm : j < m
      · have HE := Lib.hid (show cmpRows xs ys = -1 by
          rw [hE.out, List.drop_of_length_le (l := xs) (by omega), drop_cons ys j (by omega)]; rfl)
        clear hl hl' h h'
        go_wp2
        go_ret
        exact ⟨ret_int HE.out.symm, hdr⟩
      · have HE := Lib.hid (show cmpRows xs ys = 0 by
          rw [hE.out, List.drop_of_length_le (l := xs) (by omega), List.drop_of_length_le (l := ys) (by omega)]; rfl)
        clear hl hl' h h'
        go_wp2
        go_ret
        exact ⟨ret_int HE.out.symm, hdr⟩

end Go.Proofs.YtkipgbgkhffkkaaGreat

/- Contracts: ranges, and what a degree sequence is. -/
namespace Go.Proofs.YtkipgbgkhffkkaaGreat
open Go.RowKit
set_option linter.unusedVariables false
set_option linter.unusedSimpArgs false

def betw (n a b : Int) : Bool := decide (a ≤ n) && decide (n ≤ b)

theorem within_any (n a b : Int) (w : World) :
    Calls Tryz.prog 57 #[.int .i64 n, .int .i64 a, .int .i64 b] w fun e w' => e = .returned (.bool (betw n a b)) ∧ w = w' := by
  go_enter Tryz.func57, Tryz.ntmps57
  go_wp2
  all_goals go_ret
  all_goals (unfold betw; simp [*])
  exact fun h => by omega

/-- Whether the rest of a list may follow: each from 1 to what is left, none above its predecessor. -/
def degFrom (left prev : Int) : List Int → Bool
  | [] => true
  | d :: t => (betw d 1 left && decide (d ≤ prev)) && degFrom (left - d) d t

def isDeg (xs : List Int) : Bool := degFrom 8 8 xs

theorem deg_no {left prev x : Int} {t : List Int} (h : betw x 1 left = false) : degFrom left prev (x :: t) = false := by simp [degFrom, h]
theorem deg_up {left prev x : Int} {t : List Int} (h : ¬ x ≤ prev) : degFrom left prev (x :: t) = false := by simp [degFrom, h]
theorem deg_on {left prev x : Int} {t : List Int} (h : betw x 1 left = true) (h' : x ≤ prev) : degFrom left prev (x :: t) = degFrom (left - x) x t := by simp [degFrom, h, h']

theorem l1In_any (n a b : Int) (w : World) :
    Calls Tryz.prog 54 #[.int .i64 n, .int .i64 a, .int .i64 b] w fun e w' => e = .returned (.bool (betw n a b)) ∧ w = w' := by
  go_enter Tryz.func54, Tryz.ntmps54
  go_wp2
  all_goals go_ret
  all_goals (unfold betw; simp [*])
  exact fun h => by omega

end Go.Proofs.YtkipgbgkhffkkaaGreat

/- Contracts: whether a number is among some. -/
namespace Go.Proofs.YtkipgbgkhffkkaaGreat
open Go.RowKit
set_option linter.unusedVariables false
set_option linter.unusedSimpArgs false

/-- Whether x is among xs. -/
def has (xs : List Int) (x : Int) : Bool := decide (x ∈ xs)
theorem has_take_no {xs : List Int} {j : Nat} {x : Int} (h : x ∉ xs.take j) (hj : xs.length ≤ j) : has xs x = false := by
  rw [List.take_of_length_le hj] at h
  simpa [has] using h
theorem has_yes {xs : List Int} {j : Nat} {x : Int} (hj : j < xs.length) (h : xs.getD j 0 = x) : has xs x = true := by
  have : xs.getD j 0 ∈ xs := by rw [List.getD_eq_getElem?_getD, List.getElem?_eq_getElem hj]; exact List.getElem_mem hj
  rw [h] at this
  simpa [has] using this
theorem not_mem_snoc {xs : List Int} {j : Nat} {x y : Int} (h : x ∉ xs.take j) (hj : j < xs.length) (hy : xs.getD j 0 = y) (hne : y ≠ x) : x ∉ xs.take (j + 1) := by
  rw [take_snoc xs j hj, hy]
  simp only [List.mem_append, List.mem_singleton]
  rintro (h' | h')
  · exact h h'
  · exact hne h'.symm

set_option maxHeartbeats 400000 in
theorem l7Has_any (a : Option Addr) (n cap : Nat) (xs : List Int) (x : Int) (w : World) (h : Ints w a n xs) :
    Calls Tryz.prog 115 #[.slice a n cap, .int .i64 x] w fun e w' => e = .returned (.bool (has xs x)) ∧ w = w' := by
  have hn := h.small
  have hl := h.len
  go_enter Tryz.func115, Tryz.ntmps115
  go_wp2
  go_loop [5] (fun i => ∃ j : Nat, j ≤ n ∧ i = .int .i64 j ∧ Hid (x ∉ xs.take j)) (fun i => n - (intOf i).toNat)
  case atStart => exact ⟨0, Nat.zero_le _, rfl, by simp [Hid]⟩
  case round =>
    obtain ⟨j, hj, rfl, hE⟩ := hrel
    by_cases hlt : j < n
    · obtain ⟨b, off, y, rfl, hc, hy, hy1, hy2⟩ := h.get hlt
      by_cases hyx : y = x
      · have HE := Lib.hid (has_yes (by omega) (hy.out.trans hyx))
        subst hyx
        clear h hl
        go_wp2
        go_ret
        exact ⟨ret_bool HE.out.symm, rfl⟩
      · have HE := Lib.hid (not_mem_snoc hE.out (by omega) hy.out hyx)
        have hne : (y == x) = false := by rw [beq_eq_false_iff_ne]; exact hyx
        clear h hl hyx
        go_wp2
        go_round
        case rel => exact ⟨j + 1, by omega, by go_num, HE.out⟩
        case measure => simp [intOf]; omega
    · have HE := Lib.hid (has_take_no hE.out (by omega))
      clear h hl
      go_wp2
      go_ret
      exact ⟨ret_bool HE.out.symm, rfl⟩

set_option maxHeartbeats 400000 in
theorem index_any (a : Option Addr) (n cap : Nat) (xs : List Int) (x : Int) (w : World) (h : Ints w a n xs) :
    Calls Tryz.prog 143 #[.slice a n cap, .int .i64 x] w fun e w' => ∃ r : Int, e = .returned (.int .i64 r) ∧ decide (0 ≤ r) = has xs x ∧ w = w' := by
  have hn := h.small
  have hl := h.len
  go_enter Tryz.func143, Tryz.ntmps143
  go_wp2
  go_loop [5, 8] (fun _ i => ∃ j : Nat, j ≤ n ∧ i = .int .i64 j ∧ Hid (x ∉ xs.take j)) (fun _ i => n - (intOf i).toNat)
  case atStart => exact ⟨0, Nat.zero_le _, rfl, by simp [Hid]⟩
  case round =>
    obtain ⟨j, hj, rfl, hE⟩ := hrel
    by_cases hlt : j < n
    · obtain ⟨b, off, y, rfl, hc, hy, hy1, hy2⟩ := h.get hlt
      by_cases hyx : y = x
      · have HE := Lib.hid (has_yes (by omega) (hy.out.trans hyx))
        subst hyx
        clear h hl
        go_wp2
        go_ret
        exact ⟨_, rfl, by rw [HE.out]; simp, rfl⟩
      · have HE := Lib.hid (not_mem_snoc hE.out (by omega) hy.out hyx)
        have hne : (x == y) = false := by rw [beq_eq_false_iff_ne]; exact fun e => hyx e.symm
        clear h hl hyx
        go_wp2
        go_round
        case rel => exact ⟨j + 1, by omega, by go_num, HE.out⟩
        case measure => simp [intOf]; omega
    · have HE := Lib.hid (has_take_no hE.out (by omega))
      clear h hl
      go_wp2
      go_ret
      exact ⟨_, rfl, by rw [HE.out]; rfl, rfl⟩

set_option maxHeartbeats 400000 in
theorem contains_any (a : Option Addr) (n cap : Nat) (xs : List Int) (x : Int) (w : World) (h : Ints w a n xs) :
    Calls Tryz.prog 122 #[.slice a n cap, .int .i64 x] w fun e w' => e = .returned (.bool (has xs x)) ∧ w = w' := by
  go_enter Tryz.func122, Tryz.ntmps122
  go_wp2_with fail
  refine (index_any _ _ _ _ _ _ h).mono ?_
  rintro e w' ⟨r, rfl, hr, rfl⟩
  have HR := Lib.hid hr
  clear hr
  go_wp2_with fail
  go_ret
  exact ⟨ret_bool HR.out, rfl⟩

end Go.Proofs.YtkipgbgkhffkkaaGreat

/- Contracts: the laws' own helpers on slices of ints: copying, comparing, marking, looking for the marks. -/
namespace Go.Proofs.YtkipgbgkhffkkaaGreat
open Go.RowKit
set_option linter.unusedVariables false
set_option linter.unusedSimpArgs false

/-- The first k are copied, the rest is nought yet. -/
def copied (xs : List Int) (n k : Nat) : List Int := xs.take k ++ List.replicate (n - k) 0

theorem copied_step (xs : List Int) (n k : Nat) (hn : xs.length = n) (hk : k < n) : (copied xs n k).set k (xs.getD k 0) = copied xs n (k + 1) := by
  unfold copied
  rw [take_snoc xs k (by omega), List.set_append_right _ _ (by simp; omega)]
  rw [show k - (xs.take k).length = 0 by simp; omega, show n - k = (n - (k + 1)) + 1 by omega, List.replicate_succ]
  simp

set_option maxHeartbeats 400000 in
theorem toIntS_any (a : Option Addr) (n cap : Nat) (xs : List Int) (w : World) (h : Ints w a n xs) (hsm : n ≤ 1000000000000) :
    Calls Tryz.prog 120 #[.slice a n cap] w fun e w' => ∃ b c, e = .returned (.slice b n c) ∧ OwnInts w.heap.size w' (.slice b n c) n xs ∧ Below w.heap.size w w' := by
  have hl := h.len
  have hrng := h.rng
  go_enter Tryz.func120, Tryz.ntmps120
  go_wp2_with (at_make; refine wpList_mk _ _ n hsm rfl rfl rfl rfl ?_; intro w1 hown1 hb1 hz1)
  go_wp2
  go_loopw [4] (fun k wr => ∃ j : Nat, j ≤ n ∧ k = .int .i64 j ∧ wr.ownsRow w.heap.size 3 1 (.slice (some ⟨w.heap.size, 0, none⟩) n n) n ((copied xs n j).map (Value.int .i64)) ∧ Below w.heap.size w wr)
    (fun k _ => n - (intOf k).toNat)
  case atStart => exact ⟨0, Nat.zero_le _, rfl, hown1, hb1⟩
  case round =>
    obtain ⟨j, hj, rfl, hown, hb⟩ := hrel
    clear hown1 hb1
    have hn := h.small
    by_cases hlt : j < n
    · replace h := h.below hb
      obtain ⟨b, off, x, rfl, hc, hx, hx1, hx2⟩ := h.get hlt
      have hst := hown.stored j (.int .i64 x)
      have hfz := hown.frozenAt j
      obtain ⟨u, hu⟩ : ∃ u, wr.cell? ⟨w.heap.size, j, none⟩ = some u := by
        rw [hown.cellAt j (by omega)]; exact ⟨_, List.getElem?_eq_getElem (by have := hown.1; omega)⟩
      have HO : Hid ((wr.setCell ⟨w.heap.size, j, none⟩ (.int .i64 x)).ownsRow w.heap.size 3 1 (.slice (some ⟨w.heap.size, 0, none⟩) n n) n ((copied xs n (j + 1)).map (Value.int .i64))) := by
        have e : (copied xs n (j + 1)).map (Value.int .i64) = ((copied xs n j).map (Value.int .i64)).set j (.int .i64 x) := by
          rw [← copied_step xs n j hl hlt, ← hx.out, List.map_set]
        rw [e]; exact hst.1
      clear hst hown h hl
      go_wp2
      go_roundw
      case rel => exact ⟨j + 1, by omega, by go_num, HO.out, hb.setCell (Nat.le_refl _) _⟩
      case measure => simp [intOf]; omega
    · have e : copied xs n j = xs := by
        unfold copied
        rw [List.take_of_length_le (by omega), show n - j = 0 by omega]; simp
      have HO := Lib.hid (show OwnInts w.heap.size wr (.slice (some ⟨w.heap.size, 0, none⟩) n n) n xs from ⟨hl, by rw [← e]; exact hown, hrng⟩)
      clear hown e h hl
      go_wp2
      go_ret
      exact ⟨_, _, rfl, HO.out, hb⟩

theorem take_same {xs ys : List Int} {k : Nat} (h1 : k < xs.length) (h2 : k < ys.length) (he : xs.take k = ys.take k) (hx : xs.getD k 0 = ys.getD k 0) : xs.take (k + 1) = ys.take (k + 1) := by
  rw [take_snoc xs k h1, take_snoc ys k h2, he, hx]

set_option maxHeartbeats 400000 in
theorem eqIntS_any (a b : Option Addr) (n m cap cap' : Nat) (xs ys : List Int) (w : World) (h : Ints w a n xs) (h' : Ints w b m ys) :
    Calls Tryz.prog 13 #[.slice a n cap, .slice b m cap'] w fun e w' => e = .returned (.bool (decide (xs = ys))) ∧ Drew w w' := by
  have hl := h.len
  have hl' := h'.len
  have hn := h.small
  have hn' := h'.small
  by_cases hnm : n = m
  · subst hnm
    go_enter Tryz.func13, Tryz.ntmps13
    go_wp2
    go_loopw [5] (fun k wr => ∃ j : Nat, j ≤ n ∧ k = .int .i64 j ∧ Hid (xs.take j = ys.take j) ∧ Drew w wr) (fun k _ => n - (intOf k).toNat)
    case atStart => exact ⟨0, Nat.zero_le _, rfl, rfl, Drew.refl _⟩
    case round =>
      obtain ⟨j, hj, rfl, hE, hdr⟩ := hrel
      replace h := h.drew hdr
      replace h' := h'.drew hdr
      by_cases hlt : j < n
      · obtain ⟨b1, o1, x, rfl, hc, hx, hx1, hx2⟩ := h.get hlt
        obtain ⟨b2, o2, y, rfl, hc', hy, hy1, hy2⟩ := h'.get hlt
        by_cases hxy : x = y
        · have HE := Lib.hid (take_same (by omega) (by omega) hE.out ((hx.out.trans hxy).trans hy.out.symm))
          subst hxy
          clear h h' hl hl'
          go_wp2
          go_quiet (fail)
          go_wp2
          go_roundw
          case rel => exact ⟨j + 1, by omega, by go_num, HE.out, hdr.step _⟩
          case measure => simp [intOf]; omega
        · have hne : (x != y) = true := bne_iff_ne.2 hxy
          have HE := Lib.hid (show decide (xs = ys) = false by
            simp only [decide_eq_false_iff_not]; intro e; subst e; exact hxy (hx.out.symm.trans hy.out))
          clear h h' hl hl'
          go_wp2
          go_quiet (fail)
          go_wp2
          go_ret
          exact ⟨ret_bool HE.out.symm, hdr.step _⟩
      · have HE := Lib.hid (show decide (xs = ys) = true by
          have e := hE.out
          rw [List.take_of_length_le (by omega), List.take_of_length_le (by omega)] at e
          simp [e])
        clear h h' hl hl'
        go_wp2
        go_ret
        exact ⟨ret_bool HE.out.symm, hdr⟩
  · have HE := Lib.hid (show decide (xs = ys) = false by
      simp only [decide_eq_false_iff_not]; intro e; subst e; omega)
    have hne : ((n : Int) != (m : Int)) = true := by rw [bne_iff_ne]; omega
    clear hl hl' h h'
    go_enter Tryz.func13, Tryz.ntmps13
    go_wp2
    go_ret
    exact ⟨ret_bool HE.out.symm, Drew.refl _⟩

/-- The marks k, k + 1, .. in n places. -/
def marks (k : Int) (n : Nat) : List Int := (List.range n).map fun i : Nat => k + (i : Int)
theorem marks_length (k : Int) (n : Nat) : (marks k n).length = n := by simp [marks]
theorem marks_get (k : Int) (n i : Nat) (h : i < n) : (marks k n).getD i 0 = k + i := by simp [marks, h]
theorem marks_rng (k : Int) (n : Nat) (h0 : 0 ≤ k) (h1 : k ≤ 1000000000000) (h2 : n ≤ 1000000000000) : AllI64 (marks k n) := by
  intro x hx
  simp only [marks, List.mem_map, List.mem_range] at hx
  obtain ⟨i, hi, rfl⟩ := hx
  constructor <;> omega
/-- The first j are marked, the rest reads as it did. -/
def marked (k : Int) (xs : List Int) (j : Nat) : List Int := marks k j ++ xs.drop j
theorem marked_step (k : Int) (xs : List Int) (j : Nat) (h : j < xs.length) : (marked k xs j).set j (k + j) = marked k xs (j + 1) := by
  unfold marked
  rw [List.set_append_right _ _ (by simp [marks]), drop_cons xs j h]
  simp [marks, List.range_succ]
theorem marked_all (k : Int) (xs : List Int) : marked k xs xs.length = marks k xs.length := by simp [marked]

set_option maxHeartbeats 400000 in
theorem markIntS_any (lo hi : Nat) (a : Option Addr) (n cap : Nat) (xs : List Int) (k : Int) (w : World) (h : OwnInts lo w (.slice a n cap) n xs) (hb : ∀ x, a = some x → x.block < hi)
    (k0 : 0 ≤ k) (k1 : k ≤ 1000000000000) (hsm : n ≤ 1000000000000) :
    Calls Tryz.prog 18 #[.slice a n cap, .int .i64 k] w fun e w' => e = .returned (.int .i64 (k + n)) ∧ OwnInts lo w' (.slice a n cap) n (marks k n) ∧ Kept lo hi w w' := by
  have hl := h.len
  have hrow := h.row
  clear h
  go_enter Tryz.func18, Tryz.ntmps18
  go_wp2
  go_loopw [1, 5] (fun q i wr => ∃ j : Nat, j ≤ n ∧ i = .int .i64 j ∧ q = .int .i64 (k + j) ∧ wr.ownsRow lo 3 1 (.slice a n cap) n ((marked k xs j).map (Value.int .i64)) ∧ Kept lo hi w wr)
    (fun _ i _ => n - (intOf i).toNat)
  case atStart => exact ⟨0, Nat.zero_le _, rfl, by simp, by simpa [marked, marks] using hrow, Kept.refl _ _ _⟩
  case round =>
    obtain ⟨j, hj, rfl, rfl, hown, hk⟩ := hrel
    clear hrow
    by_cases hlt : j < n
    · obtain ⟨g, rfl, hlo, hc, hfz⟩ := own_cells hown j hlt
      have hhi := hb _ rfl
      have hst := hown.stored j (.int .i64 (k + j))
      obtain ⟨u, hu⟩ : ∃ u, wr.cell? ⟨g, j, none⟩ = some u := by
        rw [hc]; exact ⟨_, List.getElem?_eq_getElem (by have := hown.1; omega)⟩
      have HO : Hid ((wr.setCell ⟨g, j, none⟩ (.int .i64 (k + j))).ownsRow lo 3 1 (.slice (some ⟨g, 0, none⟩) n cap) n ((marked k xs (j + 1)).map (Value.int .i64))) := by
        rw [← marked_step k xs j (by omega), List.map_set]; exact hst.1
      clear hst hown hl hb hc
      go_wp2
      go_roundw
      case rel => exact ⟨j + 1, by omega, by go_num, by go_num, HO.out, hk.setCell (p := ⟨g, j, none⟩) hlo hhi _⟩
      case measure => simp [intOf]; omega
    · obtain rfl : j = n := by omega
      have HO := Lib.hid (show OwnInts lo wr (.slice a j cap) j (marks k j) from ⟨marks_length _ _, by rw [← hl, marked_all] at hown; rw [← hl] ; exact hown, marks_rng _ _ k0 k1 hsm⟩)
      clear hown hl hb
      go_wp2
      go_ret
      exact ⟨rfl, HO.out, hk⟩

set_option maxHeartbeats 400000 in
theorem heldIntS_any (a : Option Addr) (n cap : Nat) (k : Int) (w : World) (h : Ints w a n (marks k n)) (k0 : 0 ≤ k) (k1 : k ≤ 1000000000000) (hsm : n ≤ 1000000000000) :
    Calls Tryz.prog 19 #[.slice a n cap, .int .i64 k] w fun e w' => e = .returned (.int .i64 (k + n)) ∧ w = w' := by
  go_enter Tryz.func19, Tryz.ntmps19
  go_wp2
  go_loop [1, 5] (fun q i => ∃ j : Nat, j ≤ n ∧ i = .int .i64 j ∧ q = .int .i64 (k + j)) (fun _ i => n - (intOf i).toNat)
  case atStart => exact ⟨0, Nat.zero_le _, rfl, by simp⟩
  case round =>
    obtain ⟨j, hj, rfl, rfl⟩ := hrel
    by_cases hlt : j < n
    · obtain ⟨b, o, x, rfl, hc, hx, hx1, hx2⟩ := h.get hlt
      obtain rfl : k + j = x := by rw [← hx.out, marks_get _ _ _ hlt]
      clear h hx
      go_wp2
      go_round
      case rel => exact ⟨j + 1, by omega, by go_num, by go_num⟩
      case measure => simp [intOf]; omega
    · obtain rfl : j = n := by omega
      clear h
      go_wp2
      go_ret
      exact ⟨rfl, rfl⟩

end Go.Proofs.YtkipgbgkhffkkaaGreat

/- What the arguments of a law read as: the form's own reading opened, kind by kind, to the words of the contracts. -/
namespace Go.Proofs.YtkipgbgkhffkkaaGreat
open Go.ChangeShapes Go.WideShapes Go.ChangeAt Go.RowKit
set_option maxRecDepth 100000

theorem own_knob : ownKnob Tryz.prog.godebug = none := by kernel_rfl
theorem laid_out : laidOutB Tryz.prog = true := by kernel_rfl

section
variable {H : Type} {enc : TypeId × Value → H} {W : World} {d : DataW H} {ps : List MemPlace}

/-- An int. -/
def int_in (_w : World) (v : Value) : Prop := ∃ x, v = .int .i64 x ∧ I64 x
/-- A slice of ints. -/
def ints_in (w : World) (v : Value) : Prop := ∃ a n cap xs, v = .slice a n cap ∧ Ints w a n xs

theorem wf_I64 {x : Int} (h : (Lit.int .i64 x).wf = true) : I64 x := by
  exact bounds_i64 h

theorem open_int_in {v : Value} (hv : Value.okWide Tryz.prog W .any 0 3 v) (h : DataW.Trod enc Tryz.prog W 0 (fun _ => true) true 3 v d ps) : int_in W v := by
  obtain ⟨x, rfl, _, _, hw⟩ := open_int Tryz.underlying3 hv h
  exact ⟨x, rfl, wf_I64 hw⟩

theorem addr_none {w : World} {a : Addr} {v : Value} (h : w.cell? a = some v) : a = ⟨a.block, a.off, none⟩ := by
  obtain ⟨b, o, s⟩ := a
  cases s with
  | none => rfl
  | some x => simp only [World.cell?] at h; split at h <;> simp at h

theorem trod_ints {v : Value} {fuel : Nat} {x : DataW H × List MemPlace} (h : DataW.trod enc Tryz.prog W 0 (fun _ => true) true fuel 30 [v] = some x) : ints_in W v := by
  rcases open_ints Tryz.underlying30 Tryz.underlying3 (by kernel_rfl) h with ⟨hcs, _⟩ | ⟨a, l, c, zs, hcs, _, hl, hm, hz, _, hcell, hwz⟩
  · simp at hcs
    exact ⟨none, 0, 0, [], hcs, rfl, by omega, fun i hi => by omega, by intro x hx; cases hx⟩
  · simp at hcs hz
    refine ⟨some a, l, c, zs.take l, hcs, by simp; omega, by unfold maxLen at hm; omega, fun i hi => ?_, fun x hx => wf_I64 (hwz x (List.mem_of_mem_take hx))⟩
    have h0 := hcell 0 (by omega)
    have e := addr_none (by simpa [Addr.add] using h0)
    have hi' := hcell i (by omega)
    refine ⟨a.block, a.off, congrArg some e, ?_⟩
    rw [e] at hi'
    have e2 : (⟨a.block, a.off, none⟩ : Addr).add i = ⟨a.block, a.off + i, none⟩ := by
      unfold Addr.add; split
      · rename_i h; subst h; rfl
      · rfl
    rw [e2] at hi'
    rw [hi']
    congr 2
    simp [List.getD_eq_getElem?_getD, hi]

theorem open_ints_in {v : Value} (hv : Value.okWide Tryz.prog W .any 0 30 v) (h : DataW.Trod enc Tryz.prog W 0 (fun _ => true) true 30 v d ps) : ints_in W v := by
  obtain ⟨a, l, c, rfl⟩ := okWide_slice Tryz.underlying30 hv
  obtain ⟨fuel, hf⟩ := h
  exact trod_ints (by simpa [Value.cells] using hf)

end
end Go.Proofs.YtkipgbgkhffkkaaGreat

/- Contracts met in a region that draws its order and makes memory. -/
namespace Go.Proofs.YtkipgbgkhffkkaaGreat
open Go.RowKit Go.Sort
set_option linter.unusedVariables false

theorem reg_same {P : Program} {f : FuncId} {args : Array Value} {w : World} {d : Nat} {os : Array Obj} {v : Value}
    (h : Calls P f args (grow (redrawn w d) os) fun e w' => e = .returned v ∧ grow (redrawn w d) os = w') : Calls P f args (grow (redrawn w d) os) fun e w'' => e = .returned v ∧ ∃ p : Regrown, w'' = grow (redrawn w p.d) p.os :=
  h.mono fun _ _ ⟨he, hb⟩ => ⟨he, ⟨d, os⟩, hb.symm⟩
theorem reg_drew {P : Program} {f : FuncId} {args : Array Value} {w : World} {d : Nat} {os : Array Obj} {v : Value}
    (h : Calls P f args (grow (redrawn w d) os) fun e w' => e = .returned v ∧ Drew (grow (redrawn w d) os) w') : Calls P f args (grow (redrawn w d) os) fun e w'' => e = .returned v ∧ ∃ p : Regrown, w'' = grow (redrawn w p.d) p.os :=
  Calls.regrown_of (h.mono fun _ _ ⟨he, hb⟩ => ⟨he, hb.below _⟩)
theorem box_frozen {w wr : World} {cs : Array Value} {T : TypeId} {i : Nat} (hb : Below (w.heap.size + 1) (w.alloc (.cells cs T)) wr) : wr.frozen? ⟨w.heap.size, i, none⟩ = false := by
  rw [hb.frozen (p := ⟨w.heap.size, i, none⟩) (Nat.lt_succ_self _)]
  have h : (w.alloc (.cells cs T)).heap[w.heap.size]? = some (.cells cs T) := heap_alloc_new w _
  simp only [World.frozen?, h]
  simp

end Go.Proofs.YtkipgbgkhffkkaaGreat

/- Data in memory, by shape: how it reads (RS), and how it is owned, block by block (OS); what a later world keeps of it. -/
namespace Go.Proofs.YtkipgbgkhffkkaaGreat
open Go.RowKit
set_option linter.unusedVariables false
set_option linter.unusedSimpArgs false

/-- A shape that can be read: so many cells, and what they read as. -/
structure RS (α : Type) where
  size : Nat
  rep : World → List Value → α → Prop
  len : ∀ {w cs x}, rep w cs x → cs.length = size
  mono : ∀ {w w' cs x}, rep w cs x → Below w.heap.size w w' → rep w' cs x

/-- A shape that is owned: so many cells, what they read as, and the blocks where it lies. -/
structure OS (α : Type) where
  size : Nat
  rep : World → List Value → α → List Nat → Prop
  len : ∀ {w cs x fp}, rep w cs x fp → cs.length = size
  frame : ∀ {w w' cs x fp}, rep w cs x fp → (∀ k ∈ fp, w'.heap[k]? = w.heap[k]?) → rep w' cs x fp
  lt : ∀ {w cs x fp}, rep w cs x fp → ∀ k ∈ fp, k < w.heap.size

def R.int : RS Int := ⟨1, fun _ cs x => cs = [.int .i64 x] ∧ I64 x, fun h => by rw [h.1]; rfl, fun h _ => h⟩
def R.str : RS ByteArray := ⟨1, fun _ cs s => cs = [.string s] ∧ s.size ≤ 9223372036854775807, fun h => by rw [h.1]; rfl, fun h _ => h⟩
def R.bool : RS Bool := ⟨1, fun _ cs b => cs = [.bool b], fun h => by rw [h]; rfl, fun h _ => h⟩
def R.pair {α β : Type} (a : RS α) (b : RS β) : RS (α × β) :=
  ⟨a.size + b.size, fun w cs x => ∃ c1 c2, cs = c1 ++ c2 ∧ a.rep w c1 x.1 ∧ b.rep w c2 x.2,
    fun ⟨c1, c2, h, h1, h2⟩ => by rw [h, List.length_append, a.len h1, b.len h2],
    fun ⟨c1, c2, h, h1, h2⟩ hb => ⟨c1, c2, h, a.mono h1 hb, b.mono h2 hb⟩⟩

/-- A slice .slice a n cap whose elements read by the shape r as xs. -/
structure Sl {α : Type} (r : RS α) (w : World) (a : Option Addr) (n : Nat) (xs : List α) : Prop where
  len : xs.length = n
  small : n ≤ 9223372036854775807
  elem : ∀ i x, xs[i]? = some x → ∃ b off cs, a = some ⟨b, off, none⟩ ∧ r.rep w cs x ∧ ∀ j u, cs[j]? = some u → w.cell? ⟨b, off + (i * r.size + j), none⟩ = some u

theorem Sl.below {α : Type} {r : RS α} {w w' : World} {a : Option Addr} {n : Nat} {xs : List α} (h : Sl r w a n xs) (hb : Below w.heap.size w w') : Sl r w' a n xs :=
  ⟨h.len, h.small, fun i x hx => by
    obtain ⟨b, off, cs, ha, hr, hc⟩ := h.elem i x hx
    refine ⟨b, off, cs, ha, r.mono hr hb, fun j u hu => ?_⟩
    have := hc j u hu
    rw [hb.cell (p := ⟨b, off + (i * r.size + j), none⟩) (cell_lt this)]
    exact this⟩
theorem Sl.drew {α : Type} {r : RS α} {w w' : World} {a : Option Addr} {n : Nat} {xs : List α} (h : Sl r w a n xs) (hd : Drew w w') : Sl r w' a n xs := h.below (hd.below _)
theorem Sl.drewN {α : Type} {r : RS α} {w : World} {a : Option Addr} {n : Nat} {xs : List α} (h : Sl r w a n xs) (m : Nat) : Sl r (w.drewN m) a n xs := h.drew ⟨m, rfl⟩
def R.slice {α : Type} (r : RS α) : RS (List α) :=
  ⟨1, fun w cs xs => ∃ a n cap, cs = [.slice a n cap] ∧ n ≤ cap ∧ cap ≤ 9223372036854775807 ∧ Sl r w a n xs, fun ⟨_, _, _, h, _⟩ => by rw [h]; rfl,
    fun ⟨a, n, cap, h, h1, h2, hs⟩ hb => ⟨a, n, cap, h, h1, h2, hs.below hb⟩⟩

/-- A slice of ints, both ways. -/
theorem Ints.sl {w : World} {a : Option Addr} {n : Nat} {xs : List Int} (h : Ints w a n xs) : Sl R.int w a n xs :=
  ⟨h.len, h.small, fun i x hx => by
    have hi : i < n := by rw [← h.len]; exact (List.getElem?_eq_some_iff.1 hx).1
    obtain ⟨b, off, ha, hc⟩ := h.cell i hi
    have e : xs.getD i 0 = x := by rw [List.getD_eq_getElem?_getD, hx]; rfl
    rw [e] at hc
    refine ⟨b, off, [.int .i64 x], ha, ⟨rfl, h.rng x (List.mem_of_getElem? hx)⟩, fun j u hu => ?_⟩
    cases j with
    | zero => simp at hu; subst hu; simpa [R.int] using hc
    | succ j => simp at hu⟩
theorem Sl.ints {w : World} {a : Option Addr} {n : Nat} {xs : List Int} (h : Sl R.int w a n xs) : Ints w a n xs :=
  ⟨h.len, h.small, fun i hi => by
    have hx : xs[i]? = some (xs.getD i 0) := by
      rw [List.getD_eq_getElem?_getD, List.getElem?_eq_getElem (by rw [h.len]; exact hi)]; rfl
    obtain ⟨b, off, cs, ha, ⟨rfl, _⟩, hc⟩ := h.elem i _ hx
    exact ⟨b, off, ha, by simpa [R.int] using hc 0 _ rfl⟩, fun x hx => by
    obtain ⟨i, hi, rfl⟩ := List.mem_iff_getElem.1 hx
    obtain ⟨b, off, cs, ha, ⟨_, h2⟩, hc⟩ := h.elem i _ (List.getElem?_eq_getElem hi)
    exact h2⟩
/-- An element of one cell. -/
theorem Sl.get {α : Type} {r : RS α} {w : World} {a : Option Addr} {n : Nat} {xs : List α} (h : Sl r w a n xs) (hr : r.size = 1) {k : Nat} (hk : k < n) :
    ∃ b off v x, a = some ⟨b, off, none⟩ ∧ w.cell? ⟨b, off + k, none⟩ = some v ∧ Hid (xs[k]? = some x) ∧ r.rep w [v] x := by
  have hk' : k < xs.length := by rw [h.len]; exact hk
  obtain ⟨b, off, cs, ha, hrep, hc⟩ := h.elem k _ (List.getElem?_eq_getElem hk')
  have hl := r.len hrep
  rw [hr] at hl
  match cs, hl with
  | [v], _ => exact ⟨b, off, v, _, ha, by simpa [hr] using hc 0 v rfl, List.getElem?_eq_getElem hk', hrep⟩

/-- A slice of slices of ints: one row. -/
theorem Sl.row {w : World} {a : Option Addr} {n : Nat} {xss : List (List Int)} (h : Sl (R.slice R.int) w a n xss) {k : Nat} (hk : k < n) :
    ∃ b off r m c xs, a = some ⟨b, off, none⟩ ∧ w.cell? ⟨b, off + k, none⟩ = some (.slice r m c) ∧ Hid (xss[k]? = some xs) ∧ Ints w r m xs ∧ m ≤ c ∧ c ≤ 9223372036854775807 := by
  obtain ⟨b, off, v, xs, ha, hc, hx, r, m, c, hv, h1, h2, hs⟩ := h.get rfl hk
  simp at hv
  subst hv
  exact ⟨b, off, r, m, c, xs, ha, hc, hx, hs.ints, h1, h2⟩

/-! Owned shapes -/

/-- The block of a slice value, as a list. -/
def bl (v : Value) : List Nat := v.ownBlock.toList

def O.int : OS Int := ⟨1, fun _ cs x fp => cs = [.int .i64 x] ∧ I64 x ∧ fp = [], fun h => by rw [h.1]; rfl, fun h _ => h, fun h k hk => by rw [h.2.2] at hk; cases hk⟩
def O.str : OS ByteArray := ⟨1, fun _ cs s fp => cs = [.string s] ∧ s.size ≤ 9223372036854775807 ∧ fp = [], fun h => by rw [h.1]; rfl, fun h _ => h, fun h k hk => by rw [h.2.2] at hk; cases hk⟩
def O.bool : OS Bool := ⟨1, fun _ cs b fp => cs = [.bool b] ∧ fp = [], fun h => by rw [h.1]; rfl, fun h _ => h, fun h k hk => by rw [h.2] at hk; cases hk⟩
def O.pair {α β : Type} (a : OS α) (b : OS β) : OS (α × β) :=
  ⟨a.size + b.size, fun w cs x fp => ∃ c1 c2 f1 f2, cs = c1 ++ c2 ∧ fp = f1 ++ f2 ∧ a.rep w c1 x.1 f1 ∧ b.rep w c2 x.2 f2,
    fun ⟨c1, c2, f1, f2, h, _, h1, h2⟩ => by rw [h, List.length_append, a.len h1, b.len h2],
    fun ⟨c1, c2, f1, f2, h, hf, h1, h2⟩ hk => ⟨c1, c2, f1, f2, h, hf, a.frame h1 (fun k h => hk k (by rw [hf]; exact List.mem_append_left _ h)), b.frame h2 (fun k h => hk k (by rw [hf]; exact List.mem_append_right _ h))⟩,
    fun ⟨c1, c2, f1, f2, h, hf, h1, h2⟩ k hk => by
      rw [hf] at hk
      rcases List.mem_append.1 hk with hk | hk
      · exact a.lt h1 k hk
      · exact b.lt h2 k hk⟩

/-- Element by element. -/
def OS.rows {α : Type} (o : OS α) (w : World) : List (List Value) → List α → List (List Nat) → Prop
  | [], [], [] => True
  | c :: cs, x :: xs, f :: fs => o.rep w c x f ∧ o.rows w cs xs fs
  | _, _, _ => False
theorem OS.rows_frame {α : Type} (o : OS α) {w w' : World} : ∀ {css : List (List Value)} {xs : List α} {fps : List (List Nat)}, o.rows w css xs fps → (∀ k ∈ fps.flatten, w'.heap[k]? = w.heap[k]?) → o.rows w' css xs fps
  | [], [], [], _, _ => trivial
  | c :: cs, x :: xs, f :: fs, h, hk => ⟨o.frame h.1 (fun k hf => hk k (by simp [hf])), o.rows_frame h.2 (fun k hf => hk k (by simp only [List.flatten_cons, List.mem_append]; exact .inr hf))⟩
theorem OS.rows_lt {α : Type} (o : OS α) {w : World} : ∀ {css : List (List Value)} {xs : List α} {fps : List (List Nat)}, o.rows w css xs fps → ∀ k ∈ fps.flatten, k < w.heap.size
  | [], [], [], _, k, hk => by simp at hk
  | c :: cs, x :: xs, f :: fs, h, k, hk => by
    simp only [List.flatten_cons, List.mem_append] at hk
    rcases hk with hk | hk
    · exact o.lt h.1 k hk
    · exact o.rows_lt h.2 k hk
theorem OS.rows_len {α : Type} (o : OS α) {w : World} : ∀ {css : List (List Value)} {xs : List α} {fps : List (List Nat)}, o.rows w css xs fps → css.length = xs.length ∧ fps.length = xs.length ∧ css.flatten.length = xs.length * o.size
  | [], [], [], _ => by simp
  | c :: cs, x :: xs, f :: fs, h => by
    obtain ⟨h1, h2, h3⟩ := o.rows_len h.2
    have := o.len h.1
    simp [h1, h2, h3, this, Nat.add_mul]
    omega
theorem OS.rows_snoc {α : Type} (o : OS α) {w : World} {c : List Value} {x : α} {f : List Nat} (hx : o.rep w c x f) : ∀ {css : List (List Value)} {xs : List α} {fps : List (List Nat)}, o.rows w css xs fps → o.rows w (css ++ [c]) (xs ++ [x]) (fps ++ [f])
  | [], [], [], _ => ⟨hx, trivial⟩
  | _ :: _, _ :: _, _ :: _, h => ⟨h.1, o.rows_snoc hx h.2⟩
theorem OS.rows_get {α : Type} (o : OS α) {w : World} : ∀ {css : List (List Value)} {xs : List α} {fps : List (List Nat)} (h : o.rows w css xs fps) (i : Nat) (x : α), xs[i]? = some x → ∃ c f, css[i]? = some c ∧ fps[i]? = some f ∧ o.rep w c x f
  | [], [], [], _, i, y, hy => by simp at hy
  | c :: cs, x :: xs, f :: fs, h, 0, y, hy => by simp at hy; subst hy; exact ⟨c, f, rfl, rfl, h.1⟩
  | c :: cs, x :: xs, f :: fs, h, i + 1, y, hy => by simpa using o.rows_get h.2 i y (by simpa using hy)
theorem OS.rows_set {α : Type} (o : OS α) {w : World} : ∀ {css : List (List Value)} {xs : List α} {fps : List (List Nat)} (h : o.rows w css xs fps) (i : Nat) (c : List Value) (x : α) (f : List Nat), css[i]? = some c → fps[i]? = some f → o.rep w c x f → o.rows w css (xs.set i x) fps
  | [], [], [], _, i, _, x, _, h1, _, _ => by simp at h1
  | c :: cs, y :: xs, f :: fs, h, 0, _, x, _, h1, h2, hr => by simp at h1 h2; subst h1 h2; exact ⟨hr, h.2⟩
  | c :: cs, y :: xs, f :: fs, h, i + 1, _, x, _, h1, h2, hr => ⟨h.1, o.rows_set h.2 i _ x _ (by simpa using h1) (by simpa using h2) hr⟩

theorem own_frame {w w' : World} {B e size : Nat} {v : Value} {n : Nat} {us : List Value} (h : w.ownsRow B e size v n us) (hk : ∀ k ∈ bl v, w'.heap[k]? = w.heap[k]?) : w'.ownsRow B e size v n us := by
  refine ⟨h.1, ?_⟩
  rcases h.2 with h2 | ⟨g, cap, cur, rfl, hB, hg, r⟩
  · exact .inl h2
  · exact .inr ⟨g, cap, cur, rfl, hB, by rw [hk g (by simp [bl, Value.ownBlock])]; exact hg, r⟩

def O.slice {α : Type} (t : TypeId) (o : OS α) : OS (List α) :=
  ⟨1, fun w cs xs fp => ∃ v css fps, cs = [v] ∧ fp = bl v ++ fps.flatten ∧ w.ownsRow 0 t o.size v xs.length css.flatten ∧ o.rows w css xs fps,
    fun ⟨_, _, _, h, _⟩ => by rw [h]; rfl,
    fun ⟨v, css, fps, h, hf, h1, h2⟩ hk => ⟨v, css, fps, h, hf, own_frame h1 (fun k hb => hk k (by rw [hf]; exact List.mem_append_left _ hb)),
      o.rows_frame h2 (fun k hb => hk k (by rw [hf]; exact List.mem_append_right _ hb))⟩,
    fun ⟨v, css, fps, h, hf, h1, h2⟩ k hk => by
      rw [hf] at hk
      rcases List.mem_append.1 hk with hk | hk
      · exact (h1.lt k (by simpa [bl] using hk)).2
      · exact o.rows_lt h2 k hk⟩

/-- What is owned, between two numbers of blocks, no block twice. -/
def Own {α : Type} (o : OS α) (lo hi : Nat) (w : World) (cs : List Value) (x : α) : Prop := ∃ fp, o.rep w cs x fp ∧ fp.Nodup ∧ ∀ k ∈ fp, lo ≤ k ∧ k < hi

theorem Own.below {α : Type} {o : OS α} {lo hi C : Nat} {w w' : World} {cs : List Value} {x : α} (h : Own o lo hi w cs x) (hb : Below C w w') (hC : hi ≤ C) : Own o lo hi w' cs x := by
  obtain ⟨fp, h1, h2, h3⟩ := h
  exact ⟨fp, o.frame h1 (fun k hk => hb.block k (by have := h3 k hk; omega)), h2, h3⟩
theorem Own.kept {α : Type} {o : OS α} {lo hi lo' hi' : Nat} {w w' : World} {cs : List Value} {x : α} (h : Own o lo hi w cs x) (hk : Kept lo' hi' w w') (hd : hi ≤ lo' ∨ hi' ≤ lo) : Own o lo hi w' cs x := by
  obtain ⟨fp, h1, h2, h3⟩ := h
  exact ⟨fp, o.frame h1 (fun k hk' => hk.block k (by have := h3 k hk'; omega)), h2, h3⟩
theorem Own.mono {α : Type} {o : OS α} {lo hi lo' hi' : Nat} {w : World} {cs : List Value} {x : α} (h : Own o lo hi w cs x) (h1 : lo' ≤ lo) (h2 : hi ≤ hi') : Own o lo' hi' w cs x := by
  obtain ⟨fp, a, b, c⟩ := h
  exact ⟨fp, a, b, fun k hk => by have := c k hk; omega⟩

/-- What is owned reads. -/
def Reads {α : Type} (o : OS α) (r : RS α) : Prop := o.size = r.size ∧ ∀ {w cs x fp}, o.rep w cs x fp → r.rep w cs x
theorem Reads.int : Reads O.int R.int := ⟨rfl, fun h => ⟨h.1, h.2.1⟩⟩
theorem Reads.str : Reads O.str R.str := ⟨rfl, fun h => ⟨h.1, h.2.1⟩⟩
theorem Reads.bool : Reads O.bool R.bool := ⟨rfl, fun h => h.1⟩
theorem Reads.pair {α β : Type} {a : OS α} {b : OS β} {c : RS α} {d : RS β} (h : Reads a c) (k : Reads b d) : Reads (O.pair a b) (R.pair c d) :=
  ⟨by show a.size + b.size = c.size + d.size; rw [h.1, k.1], fun ⟨c1, c2, _, _, h1, _, h2, h3⟩ => ⟨c1, c2, h1, h.2 h2, k.2 h3⟩⟩
theorem flatten_get {α : Type} (o : OS α) {w : World} : ∀ {css : List (List Value)} {xs : List α} {fps : List (List Nat)} (h : o.rows w css xs fps) (i j : Nat) (c : List Value) (u : Value), css[i]? = some c → c[j]? = some u → css.flatten[i * o.size + j]? = some u
  | [], [], [], _, i, j, c, u, hc, hu => by simp at hc
  | c :: cs, x :: xs, f :: fs, h, 0, j, _, u, hc, hu => by
    simp at hc
    subst hc
    simp only [List.flatten_cons, Nat.zero_mul, Nat.zero_add]
    rw [List.getElem?_append_left (List.getElem?_eq_some_iff.1 hu).1]
    exact hu
  | c :: cs, x :: xs, f :: fs, h, i + 1, j, _, u, hc, hu => by
    have hl := o.len h.1
    simp only [List.flatten_cons]
    rw [List.getElem?_append_right (by rw [hl, Nat.add_mul]; omega), hl, show (i + 1) * o.size + j - o.size = i * o.size + j by rw [Nat.add_mul]; omega]
    exact flatten_get o h.2 i j _ u (by simpa using hc) hu
theorem own_cell {w : World} {B e size : Nat} {a : Option Addr} {cap n : Nat} {us : List Value} (h : w.ownsRow B e size (.slice a n cap) n us) (i : Nat) (u : Value) (hu : us[i]? = some u) :
    ∃ g, a = some ⟨g, 0, none⟩ ∧ w.cell? ⟨g, i, none⟩ = some u := by
  have hi : i < n * size := by rw [← h.1]; exact (List.getElem?_eq_some_iff.1 hu).1
  have h' := h
  rcases h'.2 with ⟨hv, rfl⟩ | ⟨g, c, cur, hv, hB, hg, hn, hc, _⟩
  · simp at hi
  · simp at hv
    obtain ⟨rfl, rfl⟩ := hv
    exact ⟨g, rfl, by rw [h.cellAt i hi]; exact hu⟩
theorem own_cap {w : World} {B e size : Nat} {a : Option Addr} {cap n : Nat} {us : List Value} (h : w.ownsRow B e size (.slice a n cap) n us) : n ≤ cap ∧ cap ≤ 9223372036854775807 := by
  rcases h.2 with ⟨hv, rfl⟩ | ⟨g, c, cur, hv, hB, hg, hn, hc, _⟩
  · simp at hv; omega
  · simp at hv
    obtain ⟨rfl, rfl⟩ := hv
    exact ⟨hn, by unfold maxLen at hc; omega⟩
theorem Reads.slice {α : Type} {o : OS α} {r : RS α} (t : TypeId) (h : Reads o r) : Reads (O.slice t o) (R.slice r) := by
  refine ⟨rfl, ?_⟩
  rintro w cs xs fp ⟨v, css, fps, rfl, rfl, h1, h2⟩
  obtain ⟨a, cap, rfl, hn, _⟩ := own_form h1
  refine ⟨a, xs.length, cap, rfl, (own_cap h1).1, (own_cap h1).2, rfl, hn, fun i x hx => ?_⟩
  obtain ⟨c, f, hc, hf, hr⟩ := o.rows_get h2 i x hx
  have hlen := o.len hr
  have key : ∀ j u, c[j]? = some u → ∃ g, a = some ⟨g, 0, none⟩ ∧ w.cell? ⟨g, i * r.size + j, none⟩ = some u := fun j u hu => by
    rw [← h.1]
    exact own_cell h1 _ _ (flatten_get o h2 i j c u hc hu)
  obtain ⟨g, ha⟩ : ∃ g, a = some ⟨g, 0, none⟩ := by
    rcases h1.2 with ⟨hv, h0⟩ | ⟨g, c, cur, hv, _⟩
    · have := (List.getElem?_eq_some_iff.1 hx).1; omega
    · simp at hv; exact ⟨g, hv.1⟩
  refine ⟨g, 0, c, ha, h.2 hr, fun j u hu => ?_⟩
  obtain ⟨g', ha', hc'⟩ := key j u hu
  rw [ha] at ha'
  simp at ha'
  subst ha'
  simpa using hc'

end Go.Proofs.YtkipgbgkhffkkaaGreat

/- Appending an owned element to an owned slice; the two arms of append in one law. -/
namespace Go.Proofs.YtkipgbgkhffkkaaGreat
open Go.RowKit
set_option linter.unusedVariables false
set_option linter.unusedSimpArgs false

theorem add_zero_addr (g j : Nat) : (⟨g, 0, none⟩ : Addr).add j = ⟨g, j, none⟩ := by
  unfold Addr.add; split
  · rename_i h; subst h; rfl
  · simp

/-- What lies in a fresh block, cell by cell. -/
theorem fresh_cells (W : World) (c : List Value) (E : TypeId) : ∀ j u, c[j]? = some u → (W.alloc (.cells c.toArray E)).cell? ((⟨W.heap.size, 0, none⟩ : Addr).add j) = some u := by
  intro j u hu
  rw [add_zero_addr]
  have h : (W.alloc (.cells c.toArray E)).heap[W.heap.size]? = some (.cells c.toArray E) := heap_alloc_new W _
  simp only [World.cell?, h]
  simpa using hu

theorem wpList_appS {α : Type} {T E size bytes : Nat} {z : Value} (hT : Tryz.prog.underlying T = some (.slice E)) (hE : (Tryz.prog.info? E).map (fun i => (i.zero, i.size, i.bytes)) = some (some z, size, bytes)) (hz : z.cells.size = size) (hpos : 0 < size) (hby : bytes ≤ 1000)
    {o' : OS α} (hsz : o'.size = size) {B h1 h2 : Nat} {w0 W : World} {ops : Array Oper} {rest : List Oper} {o : Oper} {a : Act} {Q : Exit → Act → World → Prop}
    (s x : Operand) (v : Value) (xs : List α) (c : List Value) (y : α)
    (hown : Own (O.slice E o') B h1 W [v] xs) (hy : Own o' h1 h2 W c y) (hone : ∀ u ∈ c, u.oneCell' = true) (hB : B ≤ h1) (hh : h1 ≤ h2) (hW : h2 ≤ W.heap.size) (hb : Below B w0 W) (hn : xs.length ≤ 100000000)
    (hgd : o.guard = none) (ho : o.op = .call { callee := .builtin .append, args := #[s, x], argTypes := #[T, T] })
    (hs : a.eval s = v) (hx : a.eval x = .slice (some ⟨W.heap.size, 0, none⟩) 1 1)
    (h : ∀ v' w', Own (O.slice E o') B w'.heap.size w' [v'] (xs ++ [y]) → Below B w0 w' → B ≤ w'.heap.size → wpList Tryz.prog ops Q rest (a.put o.dst v') w') :
    wpList Tryz.prog ops Q (o :: rest) a (W.alloc (.cells c.toArray E)) := by
  obtain ⟨i, hi, hz0, hz1, hz2⟩ := info_parts hE
  obtain ⟨fp, ⟨v1, css, fps, hv, rfl, hrow, hrows⟩, hnd, hlim⟩ := hown
  obtain ⟨fy, hyr, hynd, hylim⟩ := hy
  simp at hv
  subst hv
  obtain ⟨av, cap, rfl, _⟩ := own_form hrow
  have hclen : c.length = size := by rw [← hsz]; exact o'.len hyr
  rw [hsz] at hrow
  have hnl := List.nodup_append.1 hnd
  have hnew : Below W.heap.size W (W.alloc (.cells c.toArray E)) := (Below.refl _ _).alloc (Nat.le_refl _) _
  have hrow1 := own_below hrow hnew (Nat.le_refl _)
  have hrlen := o'.rows_len hrows
  have hlt : ∀ k ∈ bl (.slice av xs.length cap) ++ fps.flatten, k < W.heap.size := fun k hk => by have := hlim k hk; omega
  have hby2 : (xs.length + 1) * bytes ≤ 140737488355328 := Nat.le_trans (Nat.mul_le_mul (show xs.length + 1 ≤ 100000001 by omega) hby) (by decide)
  have fin : ∀ (v' : Value) (w' : World) (C : Nat), w'.ownsRow 0 E size v' (xs.length + 1) (css.flatten ++ c) → (∀ k, k ∈ fps.flatten ++ fy → w'.heap[k]? = W.heap[k]?) → Below B w0 w' → W.heap.size < w'.heap.size →
      (∀ k ∈ bl v', (B ≤ k ∧ k < w'.heap.size) ∧ k ∉ fps.flatten ∧ k ∉ fy) → wpList Tryz.prog ops Q rest (a.put o.dst v') w' := by
    intro v' w' C h3 h4 h5 h6 h7
    refine h v' w' ⟨bl v' ++ (fps ++ [fy]).flatten, ⟨v', css ++ [c], fps ++ [fy], rfl, rfl, ?_, ?_⟩, ?_, ?_⟩ h5 (by omega)
    · rw [hsz]; simpa using h3
    · exact o'.rows_snoc (o'.frame hyr (fun k hk => h4 k (List.mem_append_right _ hk))) (o'.rows_frame hrows (fun k hk => h4 k (List.mem_append_left _ hk)))
    · rw [List.flatten_append, List.nodup_append]
      refine ⟨by unfold bl; cases v'.ownBlock <;> simp, ?_, ?_⟩
      · rw [List.nodup_append]
        refine ⟨hnl.2.1, by simpa using hynd, ?_⟩
        intro p hp q hq
        have := hlim p (List.mem_append_right _ hp)
        have := hylim q (by simpa using hq)
        omega
      · intro p hp q hq e
        subst e
        have h8 := h7 p hp
        rcases List.mem_append.1 hq with hq | hq
        · exact h8.2.1 hq
        · exact h8.2.2 (by simpa using hq)
    · intro k hk
      rcases List.mem_append.1 hk with hk | hk
      · exact (h7 k hk).1
      · simp only [List.flatten_append, List.mem_append] at hk
        rcases hk with hk | hk
        · have := hlim k (List.mem_append_right _ hk); omega
        · have := hylim k (by simpa using hk); omega
  by_cases hroom : xs.length + 1 ≤ cap
  · -- there is room: the same block
    rcases hrow1.2 with ⟨hv, _⟩ | ⟨g, cap', cur, hv, hB0, hg, hnc, hcm, hcs, htake⟩
    · simp at hv; omega
    · simp at hv
      obtain ⟨rfl, rfl⟩ := hv
      refine wpList_append_fits _ hgd s x T ho 0 E i size hT hi hz1 g xs.length cap css.flatten hs hrow1 ⟨W.heap.size, 0, none⟩ 1 1 c hx (by omega) (fresh_cells W c E) hone hroom ?_
      intro w' h3 h4
      have hgB := hlim g (by simp [bl, Value.ownBlock])
      refine fin _ w' 0 h3 (fun k hk => ?_) ?_ ?_ ?_
      · have hkl : k < W.heap.size := by
          rcases List.mem_append.1 hk with hk | hk
          · have := hlim k (List.mem_append_right _ hk); omega
          · have := hylim k hk; omega
        rw [h4.block k (by simp; omega) ?_, Below.heap_alloc W _ k hkl]
        intro e
        simp at e
        subst e
        rcases List.mem_append.1 hk with hk | hk
        · exact hnl.2.2 k (by simp [bl, Value.ownBlock]) k hk rfl
        · have := hylim k hk; omega
      · exact (hb.alloc (by omega) _).grown h4 (by simp; omega) (fun k hk => by simp at hk; omega)
      · have := h4.size; simp at this; omega
      · intro k hk
        simp [bl, Value.ownBlock] at hk
        subst hk
        refine ⟨⟨by omega, by have := h4.size; simp at this; omega⟩, fun hm => hnl.2.2 k (by simp [bl, Value.ownBlock]) k hm rfl, fun hm => ?_⟩
        have := hylim k hm; omega
  · refine wpList_append_grows _ hgd s x T ho E i z size bytes hT hi hz0 hz1 hz2 hz hpos av xs.length cap css.flatten hs ?_ hrow1.1 ?_ ⟨W.heap.size, 0, none⟩ 1 1 c hx (by omega) (fresh_cells W c E) hone (by omega) (by unfold maxLen; omega) hby2 ?_
    · intro e
      subst e
      rcases hrow1.2 with ⟨hv, h0⟩ | ⟨g, cap', cur, hv, _⟩
      · simp at hv; exact ⟨h0, hv.2⟩
      · simp at hv
    · intro b hbv j u hu
      obtain ⟨g, hg, hcell⟩ := own_cell hrow1 j u hu
      rw [hbv] at hg
      simp at hg
      subst hg
      rw [add_zero_addr]
      exact hcell
    · intro v' w' h3 h4
      refine fin v' w' 0 (own_base h3 (Nat.zero_le _)) (fun k hk => ?_) ?_ ?_ ?_
      · have hkl : k < W.heap.size := by
          rcases List.mem_append.1 hk with hk | hk
          · have := hlim k (List.mem_append_right _ hk); omega
          · have := hylim k hk; omega
        rw [h4.block k (by simp; omega) (by simp), Below.heap_alloc W _ k hkl]
      · exact (hb.alloc (by omega) _).grown h4 (by simp; omega) (fun k hk => by simp at hk)
      · have := h4.size; simp at this; omega
      · intro k hk
        have h5 := h3.lt k (by simpa [bl] using hk)
        simp at h5
        refine ⟨⟨by omega, by omega⟩, fun hm => ?_, fun hm => ?_⟩
        · have := hlim k (List.mem_append_right _ hm); omega
        · have := hylim k hm; omega

/-- An empty slice literal. -/
theorem own_empty_S {α : Type} {E : TypeId} {o : OS α} {B : Nat} {W : World} (hB : B ≤ W.heap.size) : Own (O.slice E o) B (W.heap.size + 1) (W.alloc (.cells #[] E)) [.slice (some ⟨W.heap.size, 0, none⟩) 0 0] [] := by
  refine ⟨[W.heap.size], ⟨_, [], [], rfl, by simp [bl, Value.ownBlock], ?_, trivial⟩, by simp, ?_⟩
  · exact World.ownsRow_made W #[] 0 (Nat.zero_le _) (by unfold maxLen; omega) (by simp)
  · intro k hk; simp at hk; omega
theorem own_nil_S {α : Type} {E : TypeId} {o : OS α} {B : Nat} {W : World} : Own (O.slice E o) B B W [.slice none 0 0] [] :=
  ⟨[], ⟨_, [], [], rfl, by simp [bl, Value.ownBlock], World.ownsRow_nil _ _ _ _, trivial⟩, by simp, by intro k hk; cases hk⟩

end Go.Proofs.YtkipgbgkhffkkaaGreat
