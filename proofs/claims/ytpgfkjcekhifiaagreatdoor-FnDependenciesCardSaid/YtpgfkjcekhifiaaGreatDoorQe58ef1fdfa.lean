/- Texts joined for one claim: Base, Cmp, Deg, Has, Help, Shape, App, Help2, Name, Cols, UniI, Part, Gen, Acc, Mark. -/
import Derived.Test.YtpgfkjcekhifiaaGreatDoorProg
import Derived.Test.YtpgfkjcekhifiaaGreatDoorQ172172a568
import Derived.Test.YtpgfkjcekhifiaaGreatDoorQ4832205da8
import Derived.WalkKit
import Derived.WalkSpells
import Derived.WalkLawsBesides
import Derived.Lib.Hide
import Derived.Deep.QuietTactic
import Derived.BigQuiet
import Derived.IntWalk

namespace Go.Proofs.YtpgfkjcekhifiaaGreatDoor

open Go.RowKit

set_option linter.unusedVariables false

set_option linter.unusedSimpArgs false

theorem ret_bool {a b : Bool} (h : a = b) : Ending.returned (.bool a) = .returned (.bool b) := by rw [h]

theorem ret_int {k : IntKind} {a b : Int} (h : a = b) : Ending.returned (.int k a) = .returned (.int k b) := by rw [h]

theorem drop_cons (xs : List Int) (k : Nat) (h : k < xs.length) : xs.drop k = xs.getD k 0 :: xs.drop (k + 1) := by
  rw [List.drop_eq_getElem_cons h, List.getD_eq_getElem?_getD, List.getElem?_eq_getElem h]; rfl

theorem take_snoc (xs : List Int) (k : Nat) (h : k < xs.length) : xs.take (k + 1) = xs.take k ++ [xs.getD k 0] := by
  rw [List.take_succ_eq_append_getElem h, List.getD_eq_getElem?_getD, List.getElem?_eq_getElem h]; rfl

def I64 (x : Int) : Prop := -9223372036854775808 ≤ x ∧ x ≤ 9223372036854775807

def AllI64 (xs : List Int) : Prop := ∀ x ∈ xs, I64 x

def Drew (w w' : World) : Prop := ∃ m, w' = w.drewN m

theorem Drew.refl (w : World) : Drew w w := ⟨0, rfl⟩

theorem Drew.step {w w' : World} (h : Drew w w') (n : Nat) : Drew w (w'.drewN n) := by
  obtain ⟨m, rfl⟩ := h
  exact ⟨m + n, World.drewN_drewN _ _ _⟩

theorem Drew.trans {a b c : World} (h : Drew a b) (k : Drew b c) : Drew a c := by
  obtain ⟨n, rfl⟩ := k
  exact h.step n

theorem Drew.cell {w w' : World} (h : Drew w w') (p : Addr) : w'.cell? p = w.cell? p := by obtain ⟨m, rfl⟩ := h; rfl

theorem Drew.below {w w' : World} (h : Drew w w') (B : Nat) : Below B w w' := by obtain ⟨m, rfl⟩ := h; exact ⟨rfl, rfl, rfl, Nat.le_refl _, fun _ _ => rfl⟩

theorem Drew.size {w w' : World} (h : Drew w w') : w'.heap.size = w.heap.size := by obtain ⟨m, rfl⟩ := h; rfl

theorem quiet_same {P : Program} {f : FuncId} {args : Array Value} {w : World} {n : Nat} {v : Value} (h : Calls P f args (w.drewN n) fun e w' => e = .returned v ∧ w.drewN n = w') :
    Calls P f args (w.drewN n) fun e w'' => e = .returned v ∧ ∃ m, w'' = w.drewN m :=
  h.mono fun _ _ ⟨he, hm⟩ => ⟨he, n, hm.symm⟩

theorem quiet_drew {P : Program} {f : FuncId} {args : Array Value} {w : World} {n : Nat} {v : Value} (h : Calls P f args (w.drewN n) fun e w' => e = .returned v ∧ Drew (w.drewN n) w') :
    Calls P f args (w.drewN n) fun e w'' => e = .returned v ∧ ∃ m, w'' = w.drewN m :=
  h.mono fun _ _ ⟨he, hm⟩ => ⟨he, (Drew.step (Drew.refl w) n).trans hm⟩

theorem on {w w1 w2 : World} (h : Below w.heap.size w w1) (k : Below w1.heap.size w1 w2) : Below w.heap.size w w2 :=
  h.trans (k.mono h.size)

theorem onD {B : Nat} {w w1 w2 : World} (h : Below B w w1) (k : Drew w1 w2) : Below B w w2 := h.trans (k.below _)

theorem box_cell {w wr : World} {cs : Array Value} {T : TypeId} {i : Nat} {v : Value} (hb : Below (w.heap.size + 1) (w.alloc (.cells cs T)) wr) (hv : cs[i]? = some v) : wr.cell? ⟨w.heap.size, i, none⟩ = some v := by
  rw [hb.cell (p := ⟨w.heap.size, i, none⟩) (Nat.lt_succ_self _)]
  have h : (w.alloc (.cells cs T)).heap[w.heap.size]? = some (.cells cs T) := heap_alloc_new w _
  simp only [World.cell?, h]
  simpa using hv

theorem cell_lt {w : World} {p : Addr} {v : Value} (h : w.cell? p = some v) : p.block < w.heap.size := World.block_lt_of_cell? w p h

structure Ints (w : World) (a : Option Addr) (n : Nat) (xs : List Int) : Prop where
  len : xs.length = n
  small : n ≤ 9223372036854775807
  cell : ∀ i, i < n → ∃ b off, a = some ⟨b, off, none⟩ ∧ w.cell? ⟨b, off + i, none⟩ = some (.int .i64 (xs.getD i 0))
  rng : AllI64 xs

theorem Ints.drew {w w' : World} {a : Option Addr} {n : Nat} {xs : List Int} (h : Ints w a n xs) (hd : Drew w w') : Ints w' a n xs := by
  obtain ⟨m, rfl⟩ := hd
  exact ⟨h.len, h.small, h.cell, h.rng⟩

theorem Ints.below {w w' : World} {a : Option Addr} {n : Nat} {xs : List Int} (h : Ints w a n xs) (hb : Below w.heap.size w w') : Ints w' a n xs :=
  ⟨h.len, h.small, fun i hi => by
    obtain ⟨b, off, ha, hc⟩ := h.cell i hi
    exact ⟨b, off, ha, by rw [hb.cell (p := ⟨b, off + i, none⟩) (cell_lt hc)]; exact hc⟩, h.rng⟩

theorem Ints.drewN {w : World} {a : Option Addr} {n : Nat} {xs : List Int} (h : Ints w a n xs) (m : Nat) : Ints (w.drewN m) a n xs := h.drew ⟨m, rfl⟩

theorem Ints.get {w : World} {a : Option Addr} {n : Nat} {xs : List Int} (h : Ints w a n xs) {k : Nat} (hk : k < n) :
    ∃ b off x, a = some ⟨b, off, none⟩ ∧ w.cell? ⟨b, off + k, none⟩ = some (.int .i64 x) ∧ Hid (xs.getD k 0 = x) ∧ -9223372036854775808 ≤ x ∧ x ≤ 9223372036854775807 := by
  obtain ⟨b, off, ha, hc⟩ := h.cell k hk
  refine ⟨b, off, _, ha, hc, rfl, ?_⟩
  have hk' : k < xs.length := by have := h.len; omega
  have : xs.getD k 0 ∈ xs := by
    rw [List.getD_eq_getElem?_getD, List.getElem?_eq_getElem hk']; exact List.getElem_mem hk'
  exact h.rng _ this

theorem Ints.drop {w : World} {a : Option Addr} {n : Nat} {xs : List Int} (h : Ints w a n xs) {k : Nat} {x : Int} (hk : k < n) (hx : Hid (xs.getD k 0 = x)) : xs.drop k = x :: xs.drop (k + 1) := by
  rw [drop_cons xs k (by rw [h.len]; exact hk), hx.out]

structure OwnInts (B : Nat) (w : World) (v : Value) (n : Nat) (xs : List Int) : Prop where
  len : xs.length = n
  row : w.ownsRow B 3 1 v n (xs.map (Value.int .i64))
  rng : AllI64 xs

theorem own_form {w : World} {B e size : Nat} {v : Value} {n : Nat} {us : List Value} (h : w.ownsRow B e size v n us) :
    ∃ a cap, v = .slice a n cap ∧ n ≤ 9223372036854775807 ∧ (∀ x, a = some x → B ≤ x.block ∧ x.block < w.heap.size) := by
  rcases h.2 with ⟨rfl, rfl⟩ | ⟨g, cap, cur, rfl, hB, hg, hn, hc, _⟩
  · exact ⟨none, 0, rfl, by omega, by simp⟩
  · refine ⟨_, cap, rfl, by unfold maxLen at hc; omega, ?_⟩
    rintro x hx
    simp at hx
    subst hx
    exact ⟨hB, (Array.getElem?_eq_some_iff.1 hg).1⟩

theorem own_cells {w : World} {B e : Nat} {a : Option Addr} {cap : Nat} {n : Nat} {us : List Value} (h : w.ownsRow B e 1 (.slice a n cap) n us) (i : Nat) (hi : i < n) :
    ∃ g, a = some ⟨g, 0, none⟩ ∧ B ≤ g ∧ w.cell? ⟨g, i, none⟩ = us[i]? ∧ w.frozen? ⟨g, i, none⟩ = false := by
  have h' := h
  rcases h'.2 with ⟨hv, rfl⟩ | ⟨g, c, cur, hv, hB, hg, hn, hc, _⟩
  · omega
  · simp at hv
    obtain ⟨rfl, rfl⟩ := hv
    refine ⟨g, rfl, hB, ?_, h.frozenAt i⟩
    exact h.cellAt i (by omega)

theorem OwnInts.form {B : Nat} {w : World} {v : Value} {n : Nat} {xs : List Int} (h : OwnInts B w v n xs) : ∃ a cap, v = .slice a n cap ∧ Ints w a n xs := by
  obtain ⟨a, cap, rfl, hn, _⟩ := own_form h.row
  refine ⟨a, cap, rfl, h.len, hn, fun i hi => ?_, h.rng⟩
  obtain ⟨g, rfl, _, hc, _⟩ := own_cells h.row i hi
  refine ⟨g, 0, rfl, ?_⟩
  rw [Nat.zero_add, hc, List.getElem?_map, List.getD_eq_getElem?_getD, List.getElem?_eq_getElem (by rw [h.len]; exact hi)]
  rfl

theorem OwnInts.ints {B : Nat} {w : World} {a : Option Addr} {n cap : Nat} {xs : List Int} (h : OwnInts B w (.slice a n cap) n xs) : Ints w a n xs := by
  obtain ⟨a', cap', hv, hi⟩ := h.form
  simp at hv
  obtain ⟨rfl, rfl⟩ := hv
  exact hi

theorem own_below {w w' : World} {B C e size : Nat} {v : Value} {n : Nat} {us : List Value} (h : w.ownsRow B e size v n us) (hb : Below C w w') (hC : w.heap.size ≤ C) : w'.ownsRow B e size v n us := by
  refine ⟨h.1, ?_⟩
  rcases h.2 with h2 | ⟨g, cap, cur, rfl, hB, hg, r⟩
  · exact .inl h2
  · exact .inr ⟨g, cap, cur, rfl, hB, by rw [hb.block g (by have := (Array.getElem?_eq_some_iff.1 hg).1; omega)]; exact hg, r⟩

theorem OwnInts.below {B : Nat} {w w' : World} {v : Value} {n : Nat} {xs : List Int} (h : OwnInts B w v n xs) (hb : Below w.heap.size w w') : OwnInts B w' v n xs :=
  ⟨h.len, own_below h.row hb (Nat.le_refl _), h.rng⟩

theorem own_base {w : World} {B B' e size : Nat} {v : Value} {n : Nat} {us : List Value} (h : w.ownsRow B e size v n us) (hB : B' ≤ B) : w.ownsRow B' e size v n us := by
  refine ⟨h.1, ?_⟩
  rcases h.2 with h2 | ⟨g, cap, cur, rfl, hg, r⟩
  · exact .inl h2
  · exact .inr ⟨g, cap, cur, rfl, by omega, r⟩

theorem OwnInts.base {B B' : Nat} {w : World} {v : Value} {n : Nat} {xs : List Int} (h : OwnInts B w v n xs) (hB : B' ≤ B) : OwnInts B' w v n xs :=
  ⟨h.len, own_base h.row hB, h.rng⟩

theorem OwnInts.nil (B : Nat) (w : World) : OwnInts B w (.slice none 0 0) 0 [] := ⟨rfl, World.ownsRow_nil _ _ _ _, by intro x hx; cases hx⟩

structure Kept (lo hi : Nat) (w w' : World) : Prop where
  os : w'.os = w.os
  tape : w'.tape = w.tape
  output : w'.output = w.output
  size : w'.heap.size = w.heap.size
  block : ∀ k, (k < lo ∨ hi ≤ k) → w'.heap[k]? = w.heap[k]?

theorem Kept.refl (lo hi : Nat) (w : World) : Kept lo hi w w := ⟨rfl, rfl, rfl, rfl, fun _ _ => rfl⟩

theorem Kept.trans {lo hi : Nat} {a b c : World} (h : Kept lo hi a b) (k : Kept lo hi b c) : Kept lo hi a c :=
  ⟨k.os.trans h.os, k.tape.trans h.tape, k.output.trans h.output, k.size.trans h.size, fun i hi => (k.block i hi).trans (h.block i hi)⟩

theorem Kept.mono {lo hi lo' hi' : Nat} {w w' : World} (h : Kept lo hi w w') (h1 : lo' ≤ lo) (h2 : hi ≤ hi') : Kept lo' hi' w w' :=
  ⟨h.os, h.tape, h.output, h.size, fun k hk => h.block k (by omega)⟩

theorem Kept.below {lo hi : Nat} {w w' : World} (h : Kept lo hi w w') : Below lo w w' := ⟨h.os, h.tape, h.output, by rw [h.size]; exact Nat.le_refl _, fun k hk => h.block k (.inl hk)⟩

theorem Kept.setCell {lo hi : Nat} {a w : World} (h : Kept lo hi a w) {p : Addr} (h1 : lo ≤ p.block) (h2 : p.block < hi) (u : Value) : Kept lo hi a (w.setCell p u) :=
  h.trans ⟨rfl, rfl, rfl, by simp [World.setCell], fun k hk => Below.heap_setCell _ _ _ _ (by omega)⟩

theorem Kept.drew {lo hi : Nat} {a w w' : World} (h : Kept lo hi a w) (hd : Drew w w') : Kept lo hi a w' := by
  obtain ⟨m, rfl⟩ := hd
  exact h.trans ⟨rfl, rfl, rfl, rfl, fun _ _ => rfl⟩

def blk (v : Value) : Option Nat := v.ownBlock

theorem own_kept {lo hi : Nat} {w w' : World} {B e size : Nat} {v : Value} {n : Nat} {us : List Value} (h : w.ownsRow B e size v n us) (hk : Kept lo hi w w') (ho : ∀ k, v.ownBlock = some k → k < lo ∨ hi ≤ k) : w'.ownsRow B e size v n us := by
  refine ⟨h.1, ?_⟩
  rcases h.2 with h2 | ⟨g, cap, cur, rfl, hB, hg, r⟩
  · exact .inl h2
  · exact .inr ⟨g, cap, cur, rfl, hB, by rw [hk.block g (ho g rfl)]; exact hg, r⟩

theorem OwnInts.kept {lo hi B : Nat} {w w' : World} {v : Value} {n : Nat} {xs : List Int} (h : OwnInts B w v n xs) (hk : Kept lo hi w w') (ho : ∀ k, v.ownBlock = some k → k < lo ∨ hi ≤ k) : OwnInts B w' v n xs :=
  ⟨h.len, own_kept h.row hk ho, h.rng⟩

theorem Ints.kept {lo hi : Nat} {w w' : World} {a : Option Addr} {n : Nat} {xs : List Int} (h : Ints w a n xs) (hk : Kept lo hi w w') (ho : ∀ x, a = some x → x.block < lo ∨ hi ≤ x.block) : Ints w' a n xs :=
  ⟨h.len, h.small, fun i hi => by
    obtain ⟨b, off, ha, hc⟩ := h.cell i hi
    refine ⟨b, off, ha, ?_⟩
    rw [World.cell?_of_block (w := w) (a := ⟨b, off + i, none⟩) (hk.block b (ho _ ha))]; exact hc, h.rng⟩

theorem infoInt : (Tryz.prog.info? 3).map (fun i => (i.zero, i.size, i.bytes)) = some (some (.int .i64 0), 1, 8) := by kernel_rfl

theorem grown_below {B : Nat} {w0 w w' : World} {row : Option Nat} (h : Below B w0 w) (hB : B ≤ w.heap.size) (hg : w.grownBy w' row) (hr : ∀ k, row = some k → B ≤ k) : Below B w0 w' := h.grown hg hB hr

theorem wpList_app1 {B : Nat} {w0 W : World} {ops : Array Oper} {rest : List Oper} {o : Oper} {a : Act} {Q : Exit → Act → World → Prop}
    (s x : Operand) (v : Value) (n : Nat) (xs : List Int) (u : Int)
    (hown : OwnInts B W v n xs) (hb : Below B w0 W) (hB : B ≤ W.heap.size) (hu : I64 u) (hn : n ≤ 1000000000000)
    (hgd : o.guard = none) (ho : o.op = .call { callee := .builtin .append, args := #[s, x], argTypes := #[27, 27] })
    (hs : a.eval s = v) (hx : a.eval x = .slice (some ⟨W.heap.size, 0, none⟩) 1 1)
    (h : ∀ v' w', OwnInts B w' v' (n + 1) (xs ++ [u]) → Below B w0 w' → B ≤ w'.heap.size → wpList Tryz.prog ops Q rest (a.put o.dst v') w') :
    wpList Tryz.prog ops Q (o :: rest) a (W.alloc (.cells #[.int .i64 u] 3)) := by
  obtain ⟨i, hi, hz0, hz1, hz2⟩ := info_parts infoInt
  refine wpList_append_own _ hgd s x 27 ho B 3 i (.int .i64 0) 1 8 Tryz.underlying27 hi hz0 hz1 hz2 rfl (by decide) v n (xs.map (Value.int .i64)) hs (hown.row.alloc _)
    ⟨W.heap.size, 0, none⟩ 1 1 [.int .i64 u] hx rfl (cell_one_new _ _ _) (by intro z hz; simp at hz; subst hz; rfl) (by unfold maxLen; omega) (by omega) (by simp; omega) ?_
  intro v' w' h1 h2 _
  have hb' : Below B w0 w' := (hb.alloc hB _).grown h2 (by simp; omega) (fun k hk => (hown.row.lt k hk).1)
  refine h v' w' ⟨by simp [hown.len], by simpa using h1, ?_⟩ hb' ?_
  · intro z hz
    rcases List.mem_append.1 hz with hz | hz
    · exact hown.rng z hz
    · simp at hz; subst hz; exact hu
  · have := h2.size; simp at this; omega

theorem own_empty {B : Nat} {W : World} (hB : B ≤ W.heap.size) : OwnInts B (W.alloc (.cells #[] 3)) (.slice (some ⟨W.heap.size, 0, none⟩) 0 0) 0 [] :=
  ⟨rfl, World.ownsRow_made W #[] 0 hB (by unfold maxLen; omega) rfl, by intro x hx; cases hx⟩

end Go.Proofs.YtpgfkjcekhifiaaGreatDoor

namespace Go.Proofs.YtpgfkjcekhifiaaGreatDoor

open Go.RowKit

set_option linter.unusedVariables false

set_option linter.unusedSimpArgs false

def cmpRows : List Int → List Int → Int
  | [], [] => 0
  | [], _ :: _ => -1
  | _ :: _, [] => 1
  | x :: xs, y :: ys => if x < y then -1 else if y < x then 1 else cmpRows xs ys

theorem cmpRows_rng : ∀ (a b : List Int), cmpRows a b = -1 ∨ cmpRows a b = 0 ∨ cmpRows a b = 1
  | [], [] => by simp [cmpRows]
  | [], _ :: _ => by simp [cmpRows]
  | _ :: _, [] => by simp [cmpRows]
  | x :: xs, y :: ys => by
    rw [cmpRows]
    split
    · exact .inl rfl
    · split
      · exact .inr (.inr rfl)
      · exact cmpRows_rng xs ys

theorem cmpRows_zero : ∀ (a b : List Int), cmpRows a b = 0 ↔ a = b
  | [], [] => by simp [cmpRows]
  | [], _ :: _ => by simp [cmpRows]
  | _ :: _, [] => by simp [cmpRows]
  | x :: xs, y :: ys => by
    rw [cmpRows]
    split
    · constructor
      · intro h; simp at h
      · intro h; simp at h; omega
    · split
      · constructor
        · intro h; simp at h
        · intro h; simp at h; omega
      · rw [cmpRows_zero xs ys]
        have : x = y := by omega
        simp [this]

theorem cmp_lt {x y : Int} {a b : List Int} (h : x < y) : cmpRows (x :: a) (y :: b) = -1 := by rw [cmpRows, if_pos h]

theorem cmp_gt {x y : Int} {a b : List Int} (h : y < x) : cmpRows (x :: a) (y :: b) = 1 := by rw [cmpRows, if_neg (by omega), if_pos h]

theorem cmp_eq {x y : Int} {a b : List Int} (h : x = y) : cmpRows (x :: a) (y :: b) = cmpRows a b := by subst h; rw [cmpRows, if_neg (by omega), if_neg (by omega)]

set_option maxHeartbeats 800000 in
theorem cmp_spec (a b : Option Addr) (n m cap cap' : Nat) (xs ys : List Int) (w : World) (h : Ints w a n xs) (h' : Ints w b m ys) :
    Calls Tryz.prog 33 #[.slice a n cap, .slice b m cap'] w fun e w' => e = .returned (.int .i64 (cmpRows xs ys)) ∧ Drew w w' := by
  have hn := h.small
  have hm := h'.small
  have hl := h.len
  have hl' := h'.len
  go_enter Tryz.func33, Tryz.ntmps33
  go_wp2
  go_loopw [5] (fun i wr => ∃ j : Nat, j ≤ n ∧ j ≤ m ∧ i = .int .i64 j ∧ Hid (cmpRows xs ys = cmpRows (xs.drop j) (ys.drop j)) ∧ Drew w wr) (fun i _ => n - (intOf i).toNat)
  case atStart => exact ⟨0, Nat.zero_le _, Nat.zero_le _, rfl, rfl, Drew.refl _⟩
  case round =>
    obtain ⟨j, hj, hjm, rfl, hE, hdr⟩ := hrel
    replace h := h.drew hdr
    replace h' := h'.drew hdr
    by_cases hlt : j < n
    · by_cases hlm : j < m
      · obtain ⟨b1, o1, x, rfl, hc1, hx, _, _⟩ := h.get hlt
        obtain ⟨b2, o2, y, rfl, hc2, hy, _, _⟩ := h'.get hlm
        have HD := Lib.hid (show cmpRows xs ys = cmpRows (x :: xs.drop (j + 1)) (y :: ys.drop (j + 1)) by rw [hE.out, h.drop hlt hx, h'.drop hlm hy])
        clear hl hl' h h'
        by_cases h1 : x < y
        · have HE := Lib.hid (HD.out.trans (cmp_lt h1))
          go_wp2
          go_quiet (fail)
          go_wp2
          go_ret
          exact ⟨ret_int HE.out.symm, by first | exact hdr.step _ | exact (hdr.step _).step _⟩
        · by_cases h2 : y < x
          · have HE := Lib.hid (HD.out.trans (cmp_gt h2))
            go_wp2
            go_quiet (fail)
            go_wp2
            go_quiet (fail)
            go_wp2
            go_ret
            exact ⟨ret_int HE.out.symm, by first | exact hdr.step _ | exact (hdr.step _).step _⟩
          · have HE := Lib.hid (HD.out.trans (cmp_eq (show x = y by omega)))
            go_wp2
            go_quiet (fail)
            go_wp2
            go_quiet (fail)
            go_wp2
            go_roundw
            case rel => exact ⟨j + 1, by omega, by omega, by go_num, HE.out, by first | exact hdr.step _ | exact (hdr.step _).step _⟩
            case measure => simp [intOf]; omega
      · -- the second is at its end
        have HE := Lib.hid (show cmpRows xs ys = 1 by
          rw [hE.out, List.drop_of_length_le (l := ys) (by omega), drop_cons xs j (by omega)]; rfl)
        have hmn : m < n := by omega
        clear hl hl' h h'
        go_wp2
        go_ret
        exact ⟨ret_int HE.out.symm, hdr⟩
    · obtain rfl : j = n := by omega
      by_cases hlm : j < m
      · have HE := Lib.hid (show cmpRows xs ys = -1 by
          rw [hE.out, List.drop_of_length_le (l := xs) (by omega), drop_cons ys j (by omega)]; rfl)
        clear hl hl' h h'
        go_wp2
        go_ret
        exact ⟨ret_int HE.out.symm, hdr⟩
      · have HE := Lib.hid (show cmpRows xs ys = 0 by
          rw [hE.out, List.drop_of_length_le (l := xs) (by omega), List.drop_of_length_le (l := ys) (by omega)]; rfl)
        clear hl hl' h h'
        go_wp2
        go_ret
        exact ⟨ret_int HE.out.symm, hdr⟩

end Go.Proofs.YtpgfkjcekhifiaaGreatDoor

namespace Go.Proofs.YtpgfkjcekhifiaaGreatDoor

open Go.RowKit

set_option linter.unusedVariables false

set_option linter.unusedSimpArgs false

def betw (n a b : Int) : Bool := decide (a ≤ n) && decide (n ≤ b)

theorem within_any (n a b : Int) (w : World) :
    Calls Tryz.prog 38 #[.int .i64 n, .int .i64 a, .int .i64 b] w fun e w' => e = .returned (.bool (betw n a b)) ∧ w = w' := by
  go_enter Tryz.func38, Tryz.ntmps38
  go_wp2
  all_goals go_ret
  all_goals (unfold betw; simp [*])
  exact fun h => by omega

theorem l1In_any (n a b : Int) (w : World) :
    Calls Tryz.prog 35 #[.int .i64 n, .int .i64 a, .int .i64 b] w fun e w' => e = .returned (.bool (betw n a b)) ∧ w = w' := by
  go_enter Tryz.func35, Tryz.ntmps35
  go_wp2
  all_goals go_ret
  all_goals (unfold betw; simp [*])
  exact fun h => by omega

end Go.Proofs.YtpgfkjcekhifiaaGreatDoor

namespace Go.Proofs.YtpgfkjcekhifiaaGreatDoor

open Go.RowKit

set_option linter.unusedVariables false

set_option linter.unusedSimpArgs false

def has (xs : List Int) (x : Int) : Bool := decide (x ∈ xs)

theorem has_take_no {xs : List Int} {j : Nat} {x : Int} (h : x ∉ xs.take j) (hj : xs.length ≤ j) : has xs x = false := by
  rw [List.take_of_length_le hj] at h
  simpa [has] using h

theorem has_yes {xs : List Int} {j : Nat} {x : Int} (hj : j < xs.length) (h : xs.getD j 0 = x) : has xs x = true := by
  have : xs.getD j 0 ∈ xs := by rw [List.getD_eq_getElem?_getD, List.getElem?_eq_getElem hj]; exact List.getElem_mem hj
  rw [h] at this
  simpa [has] using this

theorem not_mem_snoc {xs : List Int} {j : Nat} {x y : Int} (h : x ∉ xs.take j) (hj : j < xs.length) (hy : xs.getD j 0 = y) (hne : y ≠ x) : x ∉ xs.take (j + 1) := by
  rw [take_snoc xs j hj, hy]
  simp only [List.mem_append, List.mem_singleton]
  rintro (h' | h')
  · exact h h'
  · exact hne h'.symm

set_option maxHeartbeats 400000 in
theorem l7Has_any (a : Option Addr) (n cap : Nat) (xs : List Int) (x : Int) (w : World) (h : Ints w a n xs) :
    Calls Tryz.prog 36 #[.slice a n cap, .int .i64 x] w fun e w' => e = .returned (.bool (has xs x)) ∧ w = w' := by
  have hn := h.small
  have hl := h.len
  go_enter Tryz.func36, Tryz.ntmps36
  go_wp2
  go_loop [5] (fun i => ∃ j : Nat, j ≤ n ∧ i = .int .i64 j ∧ Hid (x ∉ xs.take j)) (fun i => n - (intOf i).toNat)
  case atStart => exact ⟨0, Nat.zero_le _, rfl, by simp [Hid]⟩
  case round =>
    obtain ⟨j, hj, rfl, hE⟩ := hrel
    by_cases hlt : j < n
    · obtain ⟨b, off, y, rfl, hc, hy, hy1, hy2⟩ := h.get hlt
      by_cases hyx : y = x
      · have HE := Lib.hid (has_yes (by omega) (hy.out.trans hyx))
        subst hyx
        clear h hl
        go_wp2
        go_ret
        exact ⟨ret_bool HE.out.symm, rfl⟩
      · have HE := Lib.hid (not_mem_snoc hE.out (by omega) hy.out hyx)
        have hne : (y == x) = false := by rw [beq_eq_false_iff_ne]; exact hyx
        clear h hl hyx
        go_wp2
        go_round
        case rel => exact ⟨j + 1, by omega, by go_num, HE.out⟩
        case measure => simp [intOf]; omega
    · have HE := Lib.hid (has_take_no hE.out (by omega))
      clear h hl
      go_wp2
      go_ret
      exact ⟨ret_bool HE.out.symm, rfl⟩

set_option maxHeartbeats 400000 in
theorem index_any (a : Option Addr) (n cap : Nat) (xs : List Int) (x : Int) (w : World) (h : Ints w a n xs) :
    Calls Tryz.prog 76 #[.slice a n cap, .int .i64 x] w fun e w' => ∃ r : Int, e = .returned (.int .i64 r) ∧ decide (0 ≤ r) = has xs x ∧ w = w' := by
  have hn := h.small
  have hl := h.len
  go_enter Tryz.func76, Tryz.ntmps76
  go_wp2
  go_loop [5, 8] (fun _ i => ∃ j : Nat, j ≤ n ∧ i = .int .i64 j ∧ Hid (x ∉ xs.take j)) (fun _ i => n - (intOf i).toNat)
  case atStart => exact ⟨0, Nat.zero_le _, rfl, by simp [Hid]⟩
  case round =>
    obtain ⟨j, hj, rfl, hE⟩ := hrel
    by_cases hlt : j < n
    · obtain ⟨b, off, y, rfl, hc, hy, hy1, hy2⟩ := h.get hlt
      by_cases hyx : y = x
      · have HE := Lib.hid (has_yes (by omega) (hy.out.trans hyx))
        subst hyx
        clear h hl
        go_wp2
        go_ret
        exact ⟨_, rfl, by rw [HE.out]; simp, rfl⟩
      · have HE := Lib.hid (not_mem_snoc hE.out (by omega) hy.out hyx)
        have hne : (x == y) = false := by rw [beq_eq_false_iff_ne]; exact fun e => hyx e.symm
        clear h hl hyx
        go_wp2
        go_round
        case rel => exact ⟨j + 1, by omega, by go_num, HE.out⟩
        case measure => simp [intOf]; omega
    · have HE := Lib.hid (has_take_no hE.out (by omega))
      clear h hl
      go_wp2
      go_ret
      exact ⟨_, rfl, by rw [HE.out]; rfl, rfl⟩

set_option maxHeartbeats 400000 in
theorem contains_any (a : Option Addr) (n cap : Nat) (xs : List Int) (x : Int) (w : World) (h : Ints w a n xs) :
    Calls Tryz.prog 39 #[.slice a n cap, .int .i64 x] w fun e w' => e = .returned (.bool (has xs x)) ∧ w = w' := by
  go_enter Tryz.func39, Tryz.ntmps39
  go_wp2_with fail
  refine (index_any _ _ _ _ _ _ h).mono ?_
  rintro e w' ⟨r, rfl, hr, rfl⟩
  have HR := Lib.hid hr
  clear hr
  go_wp2_with fail
  go_ret
  exact ⟨ret_bool HR.out, rfl⟩

end Go.Proofs.YtpgfkjcekhifiaaGreatDoor

namespace Go.Proofs.YtpgfkjcekhifiaaGreatDoor

open Go.RowKit

set_option linter.unusedVariables false

set_option linter.unusedSimpArgs false

theorem take_same {xs ys : List Int} {k : Nat} (h1 : k < xs.length) (h2 : k < ys.length) (he : xs.take k = ys.take k) (hx : xs.getD k 0 = ys.getD k 0) : xs.take (k + 1) = ys.take (k + 1) := by
  rw [take_snoc xs k h1, take_snoc ys k h2, he, hx]

end Go.Proofs.YtpgfkjcekhifiaaGreatDoor

namespace Go.Proofs.YtpgfkjcekhifiaaGreatDoor

open Go.RowKit

set_option linter.unusedVariables false

set_option linter.unusedSimpArgs false

structure RS (α : Type) where
  size : Nat
  rep : World → List Value → α → Prop
  len : ∀ {w cs x}, rep w cs x → cs.length = size
  mono : ∀ {w w' cs x}, rep w cs x → Below w.heap.size w w' → rep w' cs x

structure OS (α : Type) where
  size : Nat
  rep : World → List Value → α → List Nat → Prop
  len : ∀ {w cs x fp}, rep w cs x fp → cs.length = size
  frame : ∀ {w w' cs x fp}, rep w cs x fp → (∀ k ∈ fp, w'.heap[k]? = w.heap[k]?) → rep w' cs x fp
  lt : ∀ {w cs x fp}, rep w cs x fp → ∀ k ∈ fp, k < w.heap.size

def R.int : RS Int := ⟨1, fun _ cs x => cs = [.int .i64 x] ∧ I64 x, fun h => by rw [h.1]; rfl, fun h _ => h⟩

def R.str : RS ByteArray := ⟨1, fun _ cs s => cs = [.string s] ∧ s.size ≤ 9223372036854775807, fun h => by rw [h.1]; rfl, fun h _ => h⟩

def R.bool : RS Bool := ⟨1, fun _ cs b => cs = [.bool b], fun h => by rw [h]; rfl, fun h _ => h⟩

def R.pair {α β : Type} (a : RS α) (b : RS β) : RS (α × β) :=
  ⟨a.size + b.size, fun w cs x => ∃ c1 c2, cs = c1 ++ c2 ∧ a.rep w c1 x.1 ∧ b.rep w c2 x.2,
    fun ⟨c1, c2, h, h1, h2⟩ => by rw [h, List.length_append, a.len h1, b.len h2],
    fun ⟨c1, c2, h, h1, h2⟩ hb => ⟨c1, c2, h, a.mono h1 hb, b.mono h2 hb⟩⟩

structure Sl {α : Type} (r : RS α) (w : World) (a : Option Addr) (n : Nat) (xs : List α) : Prop where
  len : xs.length = n
  small : n ≤ 9223372036854775807
  elem : ∀ i x, xs[i]? = some x → ∃ b off cs, a = some ⟨b, off, none⟩ ∧ r.rep w cs x ∧ ∀ j u, cs[j]? = some u → w.cell? ⟨b, off + (i * r.size + j), none⟩ = some u

theorem Sl.below {α : Type} {r : RS α} {w w' : World} {a : Option Addr} {n : Nat} {xs : List α} (h : Sl r w a n xs) (hb : Below w.heap.size w w') : Sl r w' a n xs :=
  ⟨h.len, h.small, fun i x hx => by
    obtain ⟨b, off, cs, ha, hr, hc⟩ := h.elem i x hx
    refine ⟨b, off, cs, ha, r.mono hr hb, fun j u hu => ?_⟩
    have := hc j u hu
    rw [hb.cell (p := ⟨b, off + (i * r.size + j), none⟩) (cell_lt this)]
    exact this⟩

theorem Sl.drew {α : Type} {r : RS α} {w w' : World} {a : Option Addr} {n : Nat} {xs : List α} (h : Sl r w a n xs) (hd : Drew w w') : Sl r w' a n xs := h.below (hd.below _)

theorem Sl.drewN {α : Type} {r : RS α} {w : World} {a : Option Addr} {n : Nat} {xs : List α} (h : Sl r w a n xs) (m : Nat) : Sl r (w.drewN m) a n xs := h.drew ⟨m, rfl⟩

def R.slice {α : Type} (r : RS α) : RS (List α) :=
  ⟨1, fun w cs xs => ∃ a n cap, cs = [.slice a n cap] ∧ n ≤ cap ∧ cap ≤ 9223372036854775807 ∧ Sl r w a n xs, fun ⟨_, _, _, h, _⟩ => by rw [h]; rfl,
    fun ⟨a, n, cap, h, h1, h2, hs⟩ hb => ⟨a, n, cap, h, h1, h2, hs.below hb⟩⟩

theorem Ints.sl {w : World} {a : Option Addr} {n : Nat} {xs : List Int} (h : Ints w a n xs) : Sl R.int w a n xs :=
  ⟨h.len, h.small, fun i x hx => by
    have hi : i < n := by rw [← h.len]; exact (List.getElem?_eq_some_iff.1 hx).1
    obtain ⟨b, off, ha, hc⟩ := h.cell i hi
    have e : xs.getD i 0 = x := by rw [List.getD_eq_getElem?_getD, hx]; rfl
    rw [e] at hc
    refine ⟨b, off, [.int .i64 x], ha, ⟨rfl, h.rng x (List.mem_of_getElem? hx)⟩, fun j u hu => ?_⟩
    cases j with
    | zero => simp at hu; subst hu; simpa [R.int] using hc
    | succ j => simp at hu⟩

theorem Sl.ints {w : World} {a : Option Addr} {n : Nat} {xs : List Int} (h : Sl R.int w a n xs) : Ints w a n xs :=
  ⟨h.len, h.small, fun i hi => by
    have hx : xs[i]? = some (xs.getD i 0) := by
      rw [List.getD_eq_getElem?_getD, List.getElem?_eq_getElem (by rw [h.len]; exact hi)]; rfl
    obtain ⟨b, off, cs, ha, ⟨rfl, _⟩, hc⟩ := h.elem i _ hx
    exact ⟨b, off, ha, by simpa [R.int] using hc 0 _ rfl⟩, fun x hx => by
    obtain ⟨i, hi, rfl⟩ := List.mem_iff_getElem.1 hx
    obtain ⟨b, off, cs, ha, ⟨_, h2⟩, hc⟩ := h.elem i _ (List.getElem?_eq_getElem hi)
    exact h2⟩

theorem Sl.get {α : Type} {r : RS α} {w : World} {a : Option Addr} {n : Nat} {xs : List α} (h : Sl r w a n xs) (hr : r.size = 1) {k : Nat} (hk : k < n) :
    ∃ b off v x, a = some ⟨b, off, none⟩ ∧ w.cell? ⟨b, off + k, none⟩ = some v ∧ Hid (xs[k]? = some x) ∧ r.rep w [v] x := by
  have hk' : k < xs.length := by rw [h.len]; exact hk
  obtain ⟨b, off, cs, ha, hrep, hc⟩ := h.elem k _ (List.getElem?_eq_getElem hk')
  have hl := r.len hrep
  rw [hr] at hl
  match cs, hl with
  | [v], _ => exact ⟨b, off, v, _, ha, by simpa [hr] using hc 0 v rfl, List.getElem?_eq_getElem hk', hrep⟩

theorem Sl.row {w : World} {a : Option Addr} {n : Nat} {xss : List (List Int)} (h : Sl (R.slice R.int) w a n xss) {k : Nat} (hk : k < n) :
    ∃ b off r m c xs, a = some ⟨b, off, none⟩ ∧ w.cell? ⟨b, off + k, none⟩ = some (.slice r m c) ∧ Hid (xss[k]? = some xs) ∧ Ints w r m xs ∧ m ≤ c ∧ c ≤ 9223372036854775807 := by
  obtain ⟨b, off, v, xs, ha, hc, hx, r, m, c, hv, h1, h2, hs⟩ := h.get rfl hk
  simp at hv
  subst hv
  exact ⟨b, off, r, m, c, xs, ha, hc, hx, hs.ints, h1, h2⟩


def bl (v : Value) : List Nat := v.ownBlock.toList

def O.int : OS Int := ⟨1, fun _ cs x fp => cs = [.int .i64 x] ∧ I64 x ∧ fp = [], fun h => by rw [h.1]; rfl, fun h _ => h, fun h k hk => by rw [h.2.2] at hk; cases hk⟩

def O.str : OS ByteArray := ⟨1, fun _ cs s fp => cs = [.string s] ∧ s.size ≤ 9223372036854775807 ∧ fp = [], fun h => by rw [h.1]; rfl, fun h _ => h, fun h k hk => by rw [h.2.2] at hk; cases hk⟩

def O.bool : OS Bool := ⟨1, fun _ cs b fp => cs = [.bool b] ∧ fp = [], fun h => by rw [h.1]; rfl, fun h _ => h, fun h k hk => by rw [h.2] at hk; cases hk⟩

def O.pair {α β : Type} (a : OS α) (b : OS β) : OS (α × β) :=
  ⟨a.size + b.size, fun w cs x fp => ∃ c1 c2 f1 f2, cs = c1 ++ c2 ∧ fp = f1 ++ f2 ∧ a.rep w c1 x.1 f1 ∧ b.rep w c2 x.2 f2,
    fun ⟨c1, c2, f1, f2, h, _, h1, h2⟩ => by rw [h, List.length_append, a.len h1, b.len h2],
    fun ⟨c1, c2, f1, f2, h, hf, h1, h2⟩ hk => ⟨c1, c2, f1, f2, h, hf, a.frame h1 (fun k h => hk k (by rw [hf]; exact List.mem_append_left _ h)), b.frame h2 (fun k h => hk k (by rw [hf]; exact List.mem_append_right _ h))⟩,
    fun ⟨c1, c2, f1, f2, h, hf, h1, h2⟩ k hk => by
      rw [hf] at hk
      rcases List.mem_append.1 hk with hk | hk
      · exact a.lt h1 k hk
      · exact b.lt h2 k hk⟩

def OS.rows {α : Type} (o : OS α) (w : World) : List (List Value) → List α → List (List Nat) → Prop
  | [], [], [] => True
  | c :: cs, x :: xs, f :: fs => o.rep w c x f ∧ o.rows w cs xs fs
  | _, _, _ => False

theorem OS.rows_frame {α : Type} (o : OS α) {w w' : World} : ∀ {css : List (List Value)} {xs : List α} {fps : List (List Nat)}, o.rows w css xs fps → (∀ k ∈ fps.flatten, w'.heap[k]? = w.heap[k]?) → o.rows w' css xs fps
  | [], [], [], _, _ => trivial
  | c :: cs, x :: xs, f :: fs, h, hk => ⟨o.frame h.1 (fun k hf => hk k (by simp [hf])), o.rows_frame h.2 (fun k hf => hk k (by simp only [List.flatten_cons, List.mem_append]; exact .inr hf))⟩

theorem OS.rows_lt {α : Type} (o : OS α) {w : World} : ∀ {css : List (List Value)} {xs : List α} {fps : List (List Nat)}, o.rows w css xs fps → ∀ k ∈ fps.flatten, k < w.heap.size
  | [], [], [], _, k, hk => by simp at hk
  | c :: cs, x :: xs, f :: fs, h, k, hk => by
    simp only [List.flatten_cons, List.mem_append] at hk
    rcases hk with hk | hk
    · exact o.lt h.1 k hk
    · exact o.rows_lt h.2 k hk

theorem OS.rows_len {α : Type} (o : OS α) {w : World} : ∀ {css : List (List Value)} {xs : List α} {fps : List (List Nat)}, o.rows w css xs fps → css.length = xs.length ∧ fps.length = xs.length ∧ css.flatten.length = xs.length * o.size
  | [], [], [], _ => by simp
  | c :: cs, x :: xs, f :: fs, h => by
    obtain ⟨h1, h2, h3⟩ := o.rows_len h.2
    have := o.len h.1
    simp [h1, h2, h3, this, Nat.add_mul]
    omega

theorem OS.rows_snoc {α : Type} (o : OS α) {w : World} {c : List Value} {x : α} {f : List Nat} (hx : o.rep w c x f) : ∀ {css : List (List Value)} {xs : List α} {fps : List (List Nat)}, o.rows w css xs fps → o.rows w (css ++ [c]) (xs ++ [x]) (fps ++ [f])
  | [], [], [], _ => ⟨hx, trivial⟩
  | _ :: _, _ :: _, _ :: _, h => ⟨h.1, o.rows_snoc hx h.2⟩

theorem OS.rows_get {α : Type} (o : OS α) {w : World} : ∀ {css : List (List Value)} {xs : List α} {fps : List (List Nat)} (h : o.rows w css xs fps) (i : Nat) (x : α), xs[i]? = some x → ∃ c f, css[i]? = some c ∧ fps[i]? = some f ∧ o.rep w c x f
  | [], [], [], _, i, y, hy => by simp at hy
  | c :: cs, x :: xs, f :: fs, h, 0, y, hy => by simp at hy; subst hy; exact ⟨c, f, rfl, rfl, h.1⟩
  | c :: cs, x :: xs, f :: fs, h, i + 1, y, hy => by simpa using o.rows_get h.2 i y (by simpa using hy)

theorem own_frame {w w' : World} {B e size : Nat} {v : Value} {n : Nat} {us : List Value} (h : w.ownsRow B e size v n us) (hk : ∀ k ∈ bl v, w'.heap[k]? = w.heap[k]?) : w'.ownsRow B e size v n us := by
  refine ⟨h.1, ?_⟩
  rcases h.2 with h2 | ⟨g, cap, cur, rfl, hB, hg, r⟩
  · exact .inl h2
  · exact .inr ⟨g, cap, cur, rfl, hB, by rw [hk g (by simp [bl, Value.ownBlock])]; exact hg, r⟩

def O.slice {α : Type} (t : TypeId) (o : OS α) : OS (List α) :=
  ⟨1, fun w cs xs fp => ∃ v css fps, cs = [v] ∧ fp = bl v ++ fps.flatten ∧ w.ownsRow 0 t o.size v xs.length css.flatten ∧ o.rows w css xs fps,
    fun ⟨_, _, _, h, _⟩ => by rw [h]; rfl,
    fun ⟨v, css, fps, h, hf, h1, h2⟩ hk => ⟨v, css, fps, h, hf, own_frame h1 (fun k hb => hk k (by rw [hf]; exact List.mem_append_left _ hb)),
      o.rows_frame h2 (fun k hb => hk k (by rw [hf]; exact List.mem_append_right _ hb))⟩,
    fun ⟨v, css, fps, h, hf, h1, h2⟩ k hk => by
      rw [hf] at hk
      rcases List.mem_append.1 hk with hk | hk
      · exact (h1.lt k (by simpa [bl] using hk)).2
      · exact o.rows_lt h2 k hk⟩

def Own {α : Type} (o : OS α) (lo hi : Nat) (w : World) (cs : List Value) (x : α) : Prop := ∃ fp, o.rep w cs x fp ∧ fp.Nodup ∧ ∀ k ∈ fp, lo ≤ k ∧ k < hi

theorem Own.below {α : Type} {o : OS α} {lo hi C : Nat} {w w' : World} {cs : List Value} {x : α} (h : Own o lo hi w cs x) (hb : Below C w w') (hC : hi ≤ C) : Own o lo hi w' cs x := by
  obtain ⟨fp, h1, h2, h3⟩ := h
  exact ⟨fp, o.frame h1 (fun k hk => hb.block k (by have := h3 k hk; omega)), h2, h3⟩

theorem Own.kept {α : Type} {o : OS α} {lo hi lo' hi' : Nat} {w w' : World} {cs : List Value} {x : α} (h : Own o lo hi w cs x) (hk : Kept lo' hi' w w') (hd : hi ≤ lo' ∨ hi' ≤ lo) : Own o lo hi w' cs x := by
  obtain ⟨fp, h1, h2, h3⟩ := h
  exact ⟨fp, o.frame h1 (fun k hk' => hk.block k (by have := h3 k hk'; omega)), h2, h3⟩

theorem Own.mono {α : Type} {o : OS α} {lo hi lo' hi' : Nat} {w : World} {cs : List Value} {x : α} (h : Own o lo hi w cs x) (h1 : lo' ≤ lo) (h2 : hi ≤ hi') : Own o lo' hi' w cs x := by
  obtain ⟨fp, a, b, c⟩ := h
  exact ⟨fp, a, b, fun k hk => by have := c k hk; omega⟩

def Reads {α : Type} (o : OS α) (r : RS α) : Prop := o.size = r.size ∧ ∀ {w cs x fp}, o.rep w cs x fp → r.rep w cs x

theorem Reads.int : Reads O.int R.int := ⟨rfl, fun h => ⟨h.1, h.2.1⟩⟩

theorem Reads.str : Reads O.str R.str := ⟨rfl, fun h => ⟨h.1, h.2.1⟩⟩

theorem Reads.bool : Reads O.bool R.bool := ⟨rfl, fun h => h.1⟩

theorem Reads.pair {α β : Type} {a : OS α} {b : OS β} {c : RS α} {d : RS β} (h : Reads a c) (k : Reads b d) : Reads (O.pair a b) (R.pair c d) :=
  ⟨by show a.size + b.size = c.size + d.size; rw [h.1, k.1], fun ⟨c1, c2, _, _, h1, _, h2, h3⟩ => ⟨c1, c2, h1, h.2 h2, k.2 h3⟩⟩

theorem flatten_get {α : Type} (o : OS α) {w : World} : ∀ {css : List (List Value)} {xs : List α} {fps : List (List Nat)} (h : o.rows w css xs fps) (i j : Nat) (c : List Value) (u : Value), css[i]? = some c → c[j]? = some u → css.flatten[i * o.size + j]? = some u
  | [], [], [], _, i, j, c, u, hc, hu => by simp at hc
  | c :: cs, x :: xs, f :: fs, h, 0, j, _, u, hc, hu => by
    simp at hc
    subst hc
    simp only [List.flatten_cons, Nat.zero_mul, Nat.zero_add]
    rw [List.getElem?_append_left (List.getElem?_eq_some_iff.1 hu).1]
    exact hu
  | c :: cs, x :: xs, f :: fs, h, i + 1, j, _, u, hc, hu => by
    have hl := o.len h.1
    simp only [List.flatten_cons]
    rw [List.getElem?_append_right (by rw [hl, Nat.add_mul]; omega), hl, show (i + 1) * o.size + j - o.size = i * o.size + j by rw [Nat.add_mul]; omega]
    exact flatten_get o h.2 i j _ u (by simpa using hc) hu

theorem own_cell {w : World} {B e size : Nat} {a : Option Addr} {cap n : Nat} {us : List Value} (h : w.ownsRow B e size (.slice a n cap) n us) (i : Nat) (u : Value) (hu : us[i]? = some u) :
    ∃ g, a = some ⟨g, 0, none⟩ ∧ w.cell? ⟨g, i, none⟩ = some u := by
  have hi : i < n * size := by rw [← h.1]; exact (List.getElem?_eq_some_iff.1 hu).1
  have h' := h
  rcases h'.2 with ⟨hv, rfl⟩ | ⟨g, c, cur, hv, hB, hg, hn, hc, _⟩
  · simp at hi
  · simp at hv
    obtain ⟨rfl, rfl⟩ := hv
    exact ⟨g, rfl, by rw [h.cellAt i hi]; exact hu⟩

theorem own_cap {w : World} {B e size : Nat} {a : Option Addr} {cap n : Nat} {us : List Value} (h : w.ownsRow B e size (.slice a n cap) n us) : n ≤ cap ∧ cap ≤ 9223372036854775807 := by
  rcases h.2 with ⟨hv, rfl⟩ | ⟨g, c, cur, hv, hB, hg, hn, hc, _⟩
  · simp at hv; omega
  · simp at hv
    obtain ⟨rfl, rfl⟩ := hv
    exact ⟨hn, by unfold maxLen at hc; omega⟩

theorem Reads.slice {α : Type} {o : OS α} {r : RS α} (t : TypeId) (h : Reads o r) : Reads (O.slice t o) (R.slice r) := by
  refine ⟨rfl, ?_⟩
  rintro w cs xs fp ⟨v, css, fps, rfl, rfl, h1, h2⟩
  obtain ⟨a, cap, rfl, hn, _⟩ := own_form h1
  refine ⟨a, xs.length, cap, rfl, (own_cap h1).1, (own_cap h1).2, rfl, hn, fun i x hx => ?_⟩
  obtain ⟨c, f, hc, hf, hr⟩ := o.rows_get h2 i x hx
  have hlen := o.len hr
  have key : ∀ j u, c[j]? = some u → ∃ g, a = some ⟨g, 0, none⟩ ∧ w.cell? ⟨g, i * r.size + j, none⟩ = some u := fun j u hu => by
    rw [← h.1]
    exact own_cell h1 _ _ (flatten_get o h2 i j c u hc hu)
  obtain ⟨g, ha⟩ : ∃ g, a = some ⟨g, 0, none⟩ := by
    rcases h1.2 with ⟨hv, h0⟩ | ⟨g, c, cur, hv, _⟩
    · have := (List.getElem?_eq_some_iff.1 hx).1; omega
    · simp at hv; exact ⟨g, hv.1⟩
  refine ⟨g, 0, c, ha, h.2 hr, fun j u hu => ?_⟩
  obtain ⟨g', ha', hc'⟩ := key j u hu
  rw [ha] at ha'
  simp at ha'
  subst ha'
  simpa using hc'

end Go.Proofs.YtpgfkjcekhifiaaGreatDoor

namespace Go.Proofs.YtpgfkjcekhifiaaGreatDoor

open Go.RowKit

set_option linter.unusedVariables false

set_option linter.unusedSimpArgs false

theorem add_zero_addr (g j : Nat) : (⟨g, 0, none⟩ : Addr).add j = ⟨g, j, none⟩ := by
  unfold Addr.add; split
  · rename_i h; subst h; rfl
  · simp

theorem fresh_cells (W : World) (c : List Value) (E : TypeId) : ∀ j u, c[j]? = some u → (W.alloc (.cells c.toArray E)).cell? ((⟨W.heap.size, 0, none⟩ : Addr).add j) = some u := by
  intro j u hu
  rw [add_zero_addr]
  have h : (W.alloc (.cells c.toArray E)).heap[W.heap.size]? = some (.cells c.toArray E) := heap_alloc_new W _
  simp only [World.cell?, h]
  simpa using hu

theorem own_empty_S {α : Type} {E : TypeId} {o : OS α} {B : Nat} {W : World} (hB : B ≤ W.heap.size) : Own (O.slice E o) B (W.heap.size + 1) (W.alloc (.cells #[] E)) [.slice (some ⟨W.heap.size, 0, none⟩) 0 0] [] := by
  refine ⟨[W.heap.size], ⟨_, [], [], rfl, by simp [bl, Value.ownBlock], ?_, trivial⟩, by simp, ?_⟩
  · exact World.ownsRow_made W #[] 0 (Nat.zero_le _) (by unfold maxLen; omega) (by simp)
  · intro k hk; simp at hk; omega

theorem own_nil_S {α : Type} {E : TypeId} {o : OS α} {B : Nat} {W : World} : Own (O.slice E o) B B W [.slice none 0 0] [] :=
  ⟨[], ⟨_, [], [], rfl, by simp [bl, Value.ownBlock], World.ownsRow_nil _ _ _ _, trivial⟩, by simp, by intro k hk; cases hk⟩

end Go.Proofs.YtpgfkjcekhifiaaGreatDoor

namespace Go.Proofs.YtpgfkjcekhifiaaGreatDoor

open Go.RowKit

set_option linter.unusedVariables false

set_option linter.unusedSimpArgs false

structure Only (fp : List Nat) (w w' : World) : Prop where
  os : w'.os = w.os
  tape : w'.tape = w.tape
  output : w'.output = w.output
  size : w'.heap.size = w.heap.size
  block : ∀ k, k ∉ fp → w'.heap[k]? = w.heap[k]?

theorem Only.refl (fp : List Nat) (w : World) : Only fp w w := ⟨rfl, rfl, rfl, rfl, fun _ _ => rfl⟩

theorem Only.trans {fp : List Nat} {a b c : World} (h : Only fp a b) (k : Only fp b c) : Only fp a c :=
  ⟨k.os.trans h.os, k.tape.trans h.tape, k.output.trans h.output, k.size.trans h.size, fun i hi => (k.block i hi).trans (h.block i hi)⟩

theorem Only.mono {fp fq : List Nat} {w w' : World} (h : Only fp w w') (hs : ∀ k ∈ fp, k ∈ fq) : Only fq w w' :=
  ⟨h.os, h.tape, h.output, h.size, fun k hk => h.block k (fun hx => hk (hs k hx))⟩

theorem Only.kept {fp : List Nat} {lo hi : Nat} {w w' : World} (h : Only fp w w') (hk : ∀ k ∈ fp, lo ≤ k ∧ k < hi) : Kept lo hi w w' :=
  ⟨h.os, h.tape, h.output, h.size, fun k hx => h.block k (fun hm => by have := hk k hm; omega)⟩

theorem Only.drew {fp : List Nat} {w w' w'' : World} (h : Only fp w w') (hd : Drew w' w'') : Only fp w w'' := by
  obtain ⟨m, rfl⟩ := hd
  exact ⟨h.os, h.tape, h.output, h.size, h.block⟩

structure Turn (lo hi : Nat) (w w' : World) : Prop where
  os : w'.os = w.os
  tape : w'.tape = w.tape
  output : w'.output = w.output
  size : w.heap.size ≤ w'.heap.size
  block : ∀ k, k < w.heap.size → (k < lo ∨ hi ≤ k) → w'.heap[k]? = w.heap[k]?

theorem Kept.turn {lo hi : Nat} {w w' : World} (h : Kept lo hi w w') : Turn lo hi w w' := ⟨h.os, h.tape, h.output, by rw [h.size]; exact Nat.le_refl _, fun k _ hk => h.block k hk⟩

theorem turn_refl (lo hi : Nat) (w : World) : Turn lo hi w w := (Kept.refl lo hi w).turn

theorem Turn.trans {lo hi : Nat} {a b c : World} (h : Turn lo hi a b) (k : Turn lo hi b c) : Turn lo hi a c :=
  ⟨k.os.trans h.os, k.tape.trans h.tape, k.output.trans h.output, Nat.le_trans h.size k.size, fun i hi hk => (k.block i (Nat.lt_of_lt_of_le hi h.size) hk).trans (h.block i hi hk)⟩

theorem turn_below {lo hi C : Nat} {w w' : World} (h : Below C w w') (hC : w.heap.size ≤ C) : Turn lo hi w w' := ⟨h.os, h.tape, h.output, h.size, fun k hk _ => h.block k (by omega)⟩

theorem Turn.mono {lo hi lo' hi' : Nat} {w w' : World} (h : Turn lo hi w w') (h1 : lo' ≤ lo) (h2 : hi ≤ hi') : Turn lo' hi' w w' := ⟨h.os, h.tape, h.output, h.size, fun k hk hx => h.block k hk (by omega)⟩

theorem Turn.below {lo hi : Nat} {w w' : World} (h : Turn lo hi w w') (hl : lo ≤ w.heap.size) : Below lo w w' := ⟨h.os, h.tape, h.output, h.size, fun k hk => h.block k (by omega) (.inl hk)⟩

theorem Turn.cell {lo hi : Nat} {w w' : World} (h : Turn lo hi w w') {p : Addr} (h1 : p.block < w.heap.size) (h2 : p.block < lo ∨ hi ≤ p.block) : w'.cell? p = w.cell? p := World.cell?_of_block (h.block _ h1 h2)

theorem Own.turn {α : Type} {o : OS α} {lo hi lo' hi' : Nat} {w w' : World} {cs : List Value} {x : α} (h : Own o lo hi w cs x) (hk : Turn lo' hi' w w') (hd : hi ≤ lo' ∨ hi' ≤ lo) : Own o lo hi w' cs x := by
  obtain ⟨fp, h1, h2, h3⟩ := h
  exact ⟨fp, o.frame h1 (fun k hk' => hk.block k (o.lt h1 k hk') (by have := h3 k hk'; omega)), h2, h3⟩

def oI : OS (List Int) := O.slice 3 O.int

def oII : OS (List (List Int)) := O.slice 27 oI

def rI : RS (List Int) := R.slice R.int

def rII : RS (List (List Int)) := R.slice rI

theorem reads_I : Reads oI rI := Reads.slice _ Reads.int

theorem reads_II : Reads oII rII := Reads.slice _ reads_I

theorem rows_ints {w : World} : ∀ {css : List (List Value)} {xs : List Int} {fps : List (List Nat)}, O.int.rows w css xs fps → css.flatten = xs.map (Value.int .i64) ∧ AllI64 xs ∧ fps.flatten = []
  | [], [], [], _ => ⟨rfl, (by intro x hx; cases hx), rfl⟩
  | c :: cs, x :: xs, f :: fs, h => by
    obtain ⟨⟨rfl, hx, rfl⟩, h2⟩ := h
    obtain ⟨h3, h4, h5⟩ := rows_ints h2
    refine ⟨by simp [h3], ?_, by simp [h5]⟩
    intro y hy
    rcases List.mem_cons.1 hy with rfl | hy
    · exact hx
    · exact h4 y hy

theorem ints_rows {w : World} : ∀ {xs : List Int}, AllI64 xs → O.int.rows w (xs.map fun x => [Value.int .i64 x]) xs (xs.map fun _ => [])
  | [], _ => trivial
  | x :: xs, h => ⟨⟨rfl, h x (List.mem_cons_self ..), rfl⟩, ints_rows (fun y hy => h y (List.mem_cons_of_mem _ hy))⟩

theorem map_flatten_one (xs : List Int) : (xs.map fun x => [Value.int .i64 x]).flatten = xs.map (Value.int .i64) := by
  induction xs with
  | nil => rfl
  | cons x xs ih => simp [ih]

theorem map_flatten_nil (xs : List Int) : (xs.map fun _ => ([] : List Nat)).flatten = [] := by
  induction xs with
  | nil => rfl
  | cons x xs ih => simp

theorem oI_own {w : World} {cs : List Value} {xs : List Int} {fp : List Nat} (h : oI.rep w cs xs fp) : ∃ a cap, cs = [.slice a xs.length cap] ∧ OwnInts 0 w (.slice a xs.length cap) xs.length xs ∧ fp = bl (.slice a xs.length cap) := by
  obtain ⟨v, css, fps, rfl, rfl, h1, h2⟩ := h
  obtain ⟨h3, h4, h5⟩ := rows_ints h2
  obtain ⟨a, cap, rfl, _⟩ := own_form h1
  refine ⟨a, cap, rfl, ⟨rfl, ?_, h4⟩, by rw [h5, List.append_nil]⟩
  rw [← h3]; exact h1

theorem own_oI {B n : Nat} {w : World} {v : Value} {xs : List Int} (h : OwnInts B w v n xs) : oI.rep w [v] xs (bl v) := by
  have hl := h.len
  subst hl
  refine ⟨v, _, _, rfl, ?_, ?_, ints_rows h.rng⟩
  · rw [map_flatten_nil, List.append_nil]
  · rw [map_flatten_one]; exact own_base h.row (Nat.zero_le _)

theorem OwnInts.own {B n : Nat} {w : World} {v : Value} {xs : List Int} (h : OwnInts B w v n xs) : Own oI B w.heap.size w [v] xs := by
  refine ⟨bl v, own_oI h, ?_, fun k hk => ?_⟩
  · unfold bl; cases v.ownBlock <;> simp
  · exact h.row.lt k (by simpa [bl] using hk)

theorem take_snoc' {α : Type} (xs : List α) (k : Nat) (x : α) (h : xs[k]? = some x) : xs.take (k + 1) = xs.take k ++ [x] := by
  rw [List.take_add_one, h]; rfl

theorem txc {lo hi : Nat} {w w' : World} {b k : Nat} {r : Option Value} (h : Turn lo hi w w') (e : w.cell? ⟨b, k, none⟩ = r) (h1 : b < w.heap.size := by omega) (h2 : b < lo ∨ hi ≤ b := by omega) : w'.cell? ⟨b, k, none⟩ = r := (World.cell?_of_block (a := ⟨b, k, none⟩) (h.block _ h1 h2)).trans e
theorem txf {lo hi : Nat} {w w' : World} {b k : Nat} {r : Bool} (h : Turn lo hi w w') (e : w.frozen? ⟨b, k, none⟩ = r) (h1 : b < w.heap.size := by omega) (h2 : b < lo ∨ hi ≤ b := by omega) : w'.frozen? ⟨b, k, none⟩ = r := (World.frozen?_of_block (a := ⟨b, k, none⟩) (h.block _ h1 h2)).trans e
end Go.Proofs.YtpgfkjcekhifiaaGreatDoor

namespace Go.Proofs.YtpgfkjcekhifiaaGreatDoor

open Go.RowKit

set_option linter.unusedVariables false

set_option linter.unusedSimpArgs false

def nameB (s : ByteArray) : Bool := decide (s.size = 1) && betw (s.data.toList.getD 0 0).toNat 97 122

theorem nameB_no {s : ByteArray} (h : s.size ≠ 1) : nameB s = false := by simp [nameB, h]

theorem nameB_one {c : UInt8} {s : ByteArray} (h : s = ⟨⟨[c]⟩⟩) : nameB s = betw c.toNat 97 122 := by subst h; simp [nameB, ByteArray.size]

theorem size_one {s : ByteArray} (h : s.size = 1) : ∃ c, s = ⟨⟨[c]⟩⟩ := by
  obtain ⟨⟨l⟩⟩ := s
  match l, h with
  | [c], _ => exact ⟨c, rfl⟩

theorem nameOk_any (s : ByteArray) (w : World) (hs : s.size ≤ 9223372036854775807) :
    Calls Tryz.prog 60 #[.string s] w fun e w' => e = .returned (.bool (nameB s)) ∧ w = w' := by
  by_cases h : s.size = 1
  · obtain ⟨c, rfl⟩ := size_one h
    have HE := Lib.hid (nameB_one (c := c) rfl)
    clear h
    go_enter Tryz.func60, Tryz.ntmps60
    go_wp2_with fail
    all_goals
      go_ret
      refine ⟨ret_bool (Eq.trans ?_ HE.out.symm), rfl⟩
      have e : ∀ h, ((⟨⟨[c]⟩⟩ : ByteArray)[0]'h) = c := fun _ => rfl
      simp only [e] at *
      clear HE
      first | (simp [betw]; done) | (simp [betw]; omega)
  · have HE := Lib.hid (nameB_no h)
    have h' : ((s.size : Int) == 1) = false := by rw [beq_eq_false_iff_ne]; omega
    clear h
    go_enter Tryz.func60, Tryz.ntmps60
    go_wp2_with fail
    go_ret
    exact ⟨ret_bool HE.out.symm, rfl⟩

theorem l4Name_any (s : ByteArray) (w : World) (hs : s.size ≤ 9223372036854775807) :
    Calls Tryz.prog 63 #[.string s] w fun e w' => e = .returned (.bool (nameB s)) ∧ w = w' := by
  by_cases h : s.size = 1
  · obtain ⟨c, rfl⟩ := size_one h
    have HE := Lib.hid (nameB_one (c := c) rfl)
    clear h
    go_enter Tryz.func63, Tryz.ntmps63
    go_wp2_with fail
    all_goals
      go_ret
      refine ⟨ret_bool (Eq.trans ?_ HE.out.symm), rfl⟩
      have e : ∀ h, ((⟨⟨[c]⟩⟩ : ByteArray)[0]'h) = c := fun _ => rfl
      simp only [e] at *
      clear HE
      first | (simp [betw]; done) | (simp [betw]; omega)
  · have HE := Lib.hid (nameB_no h)
    have h' : ((s.size : Int) == 1) = false := by rw [beq_eq_false_iff_ne]; omega
    clear h
    go_enter Tryz.func63, Tryz.ntmps63
    go_wp2_with fail
    go_ret
    exact ⟨ret_bool HE.out.symm, rfl⟩

end Go.Proofs.YtpgfkjcekhifiaaGreatDoor

namespace Go.Proofs.YtpgfkjcekhifiaaGreatDoor

open Go.RowKit

set_option linter.unusedVariables false

set_option linter.unusedSimpArgs false

theorem bitAt_high {K j : Nat} (h : K < 2 ^ j) : bitAt K j = false := by
  unfold bitAt; rw [Nat.div_eq_of_lt h]; rfl

theorem bitsTo_high {K j : Nat} (h : K < 2 ^ j) : ∀ m, bitsTo K (j + m) = bitsTo K j
  | 0 => rfl
  | m + 1 => by
    have hlt : K < 2 ^ (j + m) := Nat.lt_of_lt_of_le h (Nat.pow_le_pow_right (by omega) (by omega))
    rw [← Nat.add_assoc, bitsTo_no (bitAt_high hlt), bitsTo_high h m]

set_option maxHeartbeats 400000 in
theorem l12Set_any (K : Nat) (w : World) (hK : K < 9223372036854775808) :
    Calls Tryz.prog 53 #[.int .i64 K] w fun e w' => ∃ b n c, e = .returned (.slice b n c) ∧ OwnInts w.heap.size w' (.slice b n c) n (bitsTo K 3) ∧ Below w.heap.size w w' := by
  go_enter Tryz.func53, Tryz.ntmps53
  go_wp2
  go_loopw [3, 4] (fun v i wr => ∃ (j : Nat), j ≤ 3 ∧ i = .int .i64 j ∧ ∃ n, OwnInts w.heap.size wr v n (bitsTo K j) ∧ Below w.heap.size w wr) (fun _ i _ => 3 - (intOf i).toNat)
  case atStart => exact ⟨0, Nat.zero_le _, rfl, 0, own_empty (Nat.le_refl _), (Below.refl _ _).alloc (Nat.le_refl _) _⟩
  case round =>
    obtain ⟨j, hj, rfl, n, hown, hbl⟩ := hrel
    have hsz := hbl.size
    have hn4 : n ≤ 4 := by have := hown.len; have := bitsTo_len K j; omega
    by_cases hlt : j < 3
    · cases hbit : bitAt K j with
      | true =>
        have ht := bit_test K j hK
        rw [hbit] at ht
        have HB := Lib.hid hbit
        clear hbit
        go_wp2_with (first
          | (at_builtin; refine wpList_app1 _ _ _ _ _ _ hown hbl hsz ⟨by omega, by omega⟩ (by omega) rfl rfl rfl rfl ?_; intro v' w1 hown' hb' hsz'))
        rw [← bitsTo_yes HB.out] at hown'
        go_roundw
        case rel => exact ⟨j + 1, by omega, by go_num, n + 1, hown', hb'⟩
        case measure => simp [intOf]; omega
      | false =>
        have ht := bit_test K j hK
        rw [hbit] at ht
        rw [← bitsTo_no hbit] at hown
        have HO := Lib.hid hown
        clear hbit hown
        go_wp2
        go_roundw
        case rel => exact ⟨j + 1, by omega, by go_num, n, HO.out, hbl⟩
        case measure => simp [intOf]; omega
    · obtain rfl : j = 3 := by omega
      obtain ⟨a, cap, rfl, _⟩ := own_form hown.row
      go_wp2
      go_ret
      exact ⟨_, _, _, rfl, hown, hbl⟩

theorem shift_zero (K j : Nat) : ((K : Int) / 2 ^ j != 0) = !decide (K < 2 ^ j) := by
  have e : ((K : Int) / 2 ^ j) = ((K / 2 ^ j : Nat) : Int) := by simp
  rw [e]
  by_cases h : K < 2 ^ j
  · rw [Nat.div_eq_of_lt h]; simp [h]
  · have : 0 < K / 2 ^ j := Nat.div_pos (by omega) (Nat.two_pow_pos j)
    have e2 : (((K / 2 ^ j : Nat) : Int) != 0) = true := by rw [bne_iff_ne]; omega
    rw [e2]; simp [h]

set_option maxHeartbeats 400000 in
theorem bitsOf_any (K : Nat) (w : World) (hK : K < 8) :
    Calls Tryz.prog 51 #[.int .i64 K] w fun e w' => ∃ b n c, e = .returned (.slice b n c) ∧ OwnInts w.heap.size w' (.slice b n c) n (bitsTo K 3) ∧ Below w.heap.size w w' := by
  go_enter Tryz.func51, Tryz.ntmps51
  go_wp2
  go_loopw [3, 4] (fun v i wr => ∃ (j : Nat), j ≤ 3 ∧ i = .int .i64 j ∧ ∃ n, OwnInts w.heap.size wr v n (bitsTo K j) ∧ Below w.heap.size w wr) (fun _ i _ => 3 - (intOf i).toNat)
  case atStart => exact ⟨0, Nat.zero_le _, rfl, 0, own_empty (Nat.le_refl _), (Below.refl _ _).alloc (Nat.le_refl _) _⟩
  case round =>
    obtain ⟨j, hj, rfl, n, hown, hbl⟩ := hrel
    have hsz := hbl.size
    have hn4 : n ≤ 4 := by have := hown.len; have := bitsTo_len K j; omega
    by_cases hlt : K < 2 ^ j
    · have hz := shift_zero K j
      rw [show decide (K < 2 ^ j) = true by simpa using hlt, Bool.not_true] at hz
      have e : bitsTo K 3 = bitsTo K j := by
        have := bitsTo_high hlt (3 - j)
        rwa [show j + (3 - j) = 3 by omega] at this
      obtain ⟨a, cap, rfl, _⟩ := own_form hown.row
      rw [← e] at hown
      have HO := Lib.hid hown
      clear hown e hlt
      go_wp2
      go_ret
      exact ⟨_, _, _, rfl, HO.out, hbl⟩
    · have hz := shift_zero K j
      rw [show decide (K < 2 ^ j) = false by simpa using hlt, Bool.not_false] at hz
      have hj3 : j < 3 := by
        rcases (by omega : j < 3 ∨ j = 3) with h | h
        · exact h
        · subst h; omega
      clear hlt
      cases hbit : bitAt K j with
      | true =>
        have ht := bit_test K j (by omega)
        rw [hbit] at ht
        have HB := Lib.hid hbit
        clear hbit
        go_wp2_with (first
          | (at_builtin; refine wpList_app1 _ _ _ _ _ _ hown hbl hsz ⟨by omega, by omega⟩ (by omega) rfl rfl rfl rfl ?_; intro v' w1 hown' hb' hsz'))
        rw [← bitsTo_yes HB.out] at hown'
        go_roundw
        case rel => exact ⟨j + 1, by omega, by go_num, n + 1, hown', hb'⟩
        case measure => simp [intOf]; omega
      | false =>
        have ht := bit_test K j (by omega)
        rw [hbit] at ht
        rw [← bitsTo_no hbit] at hown
        have HO := Lib.hid hown
        clear hbit hown
        go_wp2
        go_roundw
        case rel => exact ⟨j + 1, by omega, by go_num, n, HO.out, hbl⟩
        case measure => simp [intOf]; omega

end Go.Proofs.YtpgfkjcekhifiaaGreatDoor

namespace Go.Proofs.YtpgfkjcekhifiaaGreatDoor

open Go.RowKit

set_option linter.unusedVariables false

set_option linter.unusedSimpArgs false

theorem Own.rd {α : Type} {o : OS α} {r : RS α} (hr : Reads o r) {lo hi : Nat} {w : World} {cs : List Value} {x : α} (h : Own o lo hi w cs x) : r.rep w cs x := by
  obtain ⟨fp, h1, _⟩ := h
  exact hr.2 h1

theorem rI_open {w : World} {v : Value} {xs : List Int} (h : rI.rep w [v] xs) : ∃ a cap, v = .slice a xs.length cap ∧ xs.length ≤ cap ∧ cap ≤ 9223372036854775807 ∧ Ints w a xs.length xs := by
  obtain ⟨a, n, cap, hv, h1, h2, hs⟩ := h
  simp at hv
  have := hs.len
  subst this
  exact ⟨a, cap, hv, h1, h2, hs.ints⟩

theorem rI_mk {w : World} {a : Option Addr} {n cap : Nat} {xs : List Int} (h : Ints w a n xs) (h1 : n ≤ cap) (h2 : cap ≤ 9223372036854775807) : rI.rep w [.slice a n cap] xs := ⟨a, n, cap, rfl, h1, h2, h.sl⟩

theorem rI_form {w : World} {cs : List Value} {xs : List Int} (h : rI.rep w cs xs) : ∃ b n c, cs = [.slice b n c] := by
  obtain ⟨a, n, cap, hv, _⟩ := h
  exact ⟨_, _, _, hv⟩

theorem oI_form1 {lo hi : Nat} {w : World} {v : Value} {xs : List Int} (h : Own oI lo hi w [v] xs) : ∃ b n c, v = .slice b n c := by
  obtain ⟨b, n, c, hv⟩ := rI_form (h.rd reads_I)
  simp at hv
  exact ⟨_, _, _, hv⟩

theorem Own.setOut {α : Type} {o : OS α} {lo hi : Nat} {w w' : World} {cs : List Value} {x : α} (h : Own o lo hi w cs x) {p : Addr} {u : Value} (hw : w' = w.setCell p u) (hp : p.block < lo) : Own o lo hi w' cs x := by
  obtain ⟨fp, h1, h2, h3⟩ := h
  exact ⟨fp, o.frame h1 (fun k hk => by rw [hw]; exact Below.heap_setCell _ _ _ _ (by have := h3 k hk; omega)), h2, h3⟩

theorem bytes_ne {s t : ByteArray} (h : s ≠ t) : (s.toList == t.toList) = false := by
  rw [beq_eq_false_iff_ne]
  intro e
  apply h
  rw [ByteArray.toList_eq, ByteArray.toList_eq] at e
  cases s; cases t
  simp at e
  simp [e]

def bulk_I (xs : List Int) : Nat := xs.length

def cnt_I (xs : List Int) : Nat := xs.length

end Go.Proofs.YtpgfkjcekhifiaaGreatDoor

namespace Go.Proofs.YtpgfkjcekhifiaaGreatDoor

open Go.RowKit

set_option linter.unusedVariables false

set_option linter.unusedSimpArgs false

def setCells (w : World) (g : Nat) : Nat → List Value → World
  | _, [] => w
  | i, c :: cs => setCells (w.setCell ⟨g, i, none⟩ c) g (i + 1) cs

theorem setCells_size (g : Nat) : ∀ (cs : List Value) (w : World) (i : Nat), (setCells w g i cs).heap.size = w.heap.size
  | [], _, _ => rfl
  | c :: cs, w, i => by rw [setCells, setCells_size g cs]; simp [World.setCell]

theorem setCells_other (g : Nat) : ∀ (cs : List Value) (w : World) (i k : Nat), k ≠ g → (setCells w g i cs).heap[k]? = w.heap[k]?
  | [], _, _, _, _ => rfl
  | c :: cs, w, i, k, h => by rw [setCells, setCells_other g cs _ _ _ h]; exact Below.heap_setCell _ _ _ _ h

theorem setCells_only (g : Nat) (cs : List Value) (w : World) (i : Nat) : Only [g] w (setCells w g i cs) := by
  have h : ∀ (cs : List Value) (w : World) (i : Nat), (setCells w g i cs).os = w.os ∧ (setCells w g i cs).tape = w.tape ∧ (setCells w g i cs).output = w.output := by
    intro cs
    induction cs with
    | nil => intro w i; exact ⟨rfl, rfl, rfl⟩
    | cons c cs ih => intro w i; exact ih (w.setCell ⟨g, i, none⟩ c) (i + 1)
  exact ⟨(h cs w i).1, (h cs w i).2.1, (h cs w i).2.2, setCells_size g cs w i, fun k hk => setCells_other g cs w i k (by simpa using hk)⟩

theorem setCells_block (g E : Nat) : ∀ (cs : List Value) (w : World) (i : Nat) (A C M : List Value), w.heap[g]? = some (.cells (A ++ (M ++ C)).toArray E) → A.length = i → M.length = cs.length →
    (setCells w g i cs).heap[g]? = some (.cells (A ++ (cs ++ C)).toArray E)
  | [], w, i, A, C, M, h, _, hM => by
    have : M = [] := List.eq_nil_of_length_eq_zero (by simpa using hM)
    subst this
    exact h
  | c :: cs, w, i, A, C, M, h, hA, hM => by
    cases M with
    | nil => simp at hM
    | cons m M =>
      have h2 := heap_setCell_same w g i _ E c h
      have e : ((A ++ (m :: M ++ C)).toArray.setIfInBounds i c) = ((A ++ [c]) ++ (M ++ C)).toArray := by
        apply Array.ext'
        simp only [Array.toList_setIfInBounds]
        rw [List.set_append_right _ _ (by omega), show i - A.length = 0 by omega]
        simp
      rw [e] at h2
      have := setCells_block g E cs _ (i + 1) (A ++ [c]) C M h2 (by simp [hA]) (by simpa using hM)
      rw [setCells, this]
      simp

def Part {α : Type} (E : TypeId) (o : OS α) (z : List Value) (B : Nat) (w : World) (g n k : Nat) (xs : List α) : Prop :=
  ∃ css fps, w.heap[g]? = some (.cells (css.flatten ++ (List.replicate (n - k) z).flatten).toArray E) ∧ o.rows w css (xs.take k) fps ∧ (g :: fps.flatten).Nodup ∧ (∀ p ∈ fps.flatten, B ≤ p ∧ p < w.heap.size) ∧ B ≤ g ∧ g < w.heap.size

theorem Part.below {α : Type} {E : TypeId} {o : OS α} {z : List Value} {B C : Nat} {w w' : World} {g n k : Nat} {xs : List α} (h : Part E o z B w g n k xs) (hb : Below C w w') (hC : w.heap.size ≤ C) : Part E o z B w' g n k xs := by
  obtain ⟨css, fps, h1, h2, h3, h4, h5, h6⟩ := h
  exact ⟨css, fps, by rw [hb.block g (by omega)]; exact h1, o.rows_frame h2 (fun p hp => hb.block p (by have := h4 p hp; omega)), h3, fun p hp => by have := h4 p hp; have := hb.size; omega, h5, by have := hb.size; omega⟩

theorem Part.cell {α : Type} {E : TypeId} {o : OS α} {z : List Value} {B : Nat} {w : World} {g n k : Nat} {xs : List α} (h : Part E o z B w g n k xs) (hz : z.length = o.size) (hk : k < n) (hx : k ≤ xs.length) (j : Nat) (hj : j < o.size) :
    (∃ u, w.cell? ⟨g, k * o.size + j, none⟩ = some u) ∧ w.frozen? ⟨g, k * o.size + j, none⟩ = false := by
  obtain ⟨css, fps, h1, h2, _⟩ := h
  have hl := (o.rows_len h2).2.2
  have hlen : css.flatten.length = k * o.size := by rw [hl, List.length_take, Nat.min_eq_left hx]
  constructor
  · have : k * o.size + j < (css.flatten ++ (List.replicate (n - k) z).flatten).length := by
      rw [List.length_append, hlen]
      have h3 : ((List.replicate (n - k) z).flatten).length = (n - k) * o.size := by simp [hz]
      rw [h3]
      have : o.size ≤ (n - k) * o.size := Nat.le_mul_of_pos_left _ (by omega)
      omega
    refine ⟨(css.flatten ++ (List.replicate (n - k) z).flatten)[k * o.size + j], ?_⟩
    simp only [World.cell?, h1]
    simp only [Option.isSome_none, Bool.false_eq_true, if_false]
    rw [List.getElem?_toArray, List.getElem?_eq_getElem this]
  · simp [World.frozen?, h1]

theorem Part.step {α : Type} {E : TypeId} {o : OS α} {z : List Value} {B B1 B2 : Nat} {w : World} {g n k : Nat} {xs : List α} {cs : List Value} {x : α} (h : Part E o z B w g n k xs) (hz : z.length = o.size) (hk : k < n) (hx : xs[k]? = some x)
    (hy : Own o B1 B2 w cs x) (hB1 : g < B1)
    (hold : ∃ w0 : World, Part E o z B w0 g n k xs ∧ w0.heap.size ≤ B1 ∧ ∀ p, p < w0.heap.size → w.heap[p]? = w0.heap[p]?) (hB2 : B2 ≤ w.heap.size) (hB : B ≤ B1) :
    Part E o z B (setCells w g (k * o.size) cs) g n (k + 1) xs := by
  obtain ⟨w0, ⟨css, fps, h1, h2, h3, h4, h5, h6⟩, hs, hsame⟩ := hold
  obtain ⟨fy, hr, hn, hl⟩ := hy
  have h1' : w.heap[g]? = some (.cells (css.flatten ++ (List.replicate (n - k) z).flatten).toArray E) := by rw [hsame g h6]; exact h1
  have h2' := o.rows_frame h2 (fun p hp => hsame p (h4 p hp).2)
  have hlen : css.flatten.length = k * o.size := by
    rw [(o.rows_len h2).2.2]
    have := (List.getElem?_eq_some_iff.1 hx).1
    rw [List.length_take, Nat.min_eq_left (by omega)]
  have hcl := o.len hr
  have hO := setCells_only g cs w (k * o.size)
  have hfy : ∀ p ∈ fy, p ≠ g := fun p hp e => by have := hl p hp; omega
  have hfps : ∀ p ∈ fps.flatten, p ≠ g := fun p hp e => by subst e; exact (List.nodup_cons.1 h3).1 hp
  refine ⟨css ++ [cs], fps ++ [fy], ?_, ?_, ?_, ?_, h5, ?_⟩
  · have e : (List.replicate (n - k) z).flatten = z ++ (List.replicate (n - (k + 1)) z).flatten := by
      rw [show n - k = (n - (k + 1)) + 1 by omega, List.replicate_succ]; simp
    rw [e] at h1'
    have := setCells_block g E cs w (k * o.size) css.flatten _ z h1' hlen (by rw [hz, hcl])
    rw [this]
    simp
  · rw [take_snoc' xs k x hx]
    refine o.rows_snoc (o.frame hr (fun p hp => hO.block p (by simpa using hfy p hp))) (o.rows_frame h2' (fun p hp => hO.block p (by simpa using hfps p hp)))
  · rw [List.flatten_append]
    refine List.nodup_cons.2 ⟨fun hm => ?_, List.nodup_append.2 ⟨(List.nodup_cons.1 h3).2, by simpa using hn, fun p hp q hq e => ?_⟩⟩
    · rcases List.mem_append.1 hm with hm | hm
      · exact hfps g hm rfl
      · exact hfy g (by simpa using hm) rfl
    · subst e
      have := (h4 p hp).2
      have := hl p (by simpa using hq)
      omega
  · intro p hp
    rw [setCells_size]
    rw [List.flatten_append] at hp
    rcases List.mem_append.1 hp with hp | hp
    · exact ⟨(h4 p hp).1, o.rows_lt h2' p hp⟩
    · have := hl p (by simpa using hp); omega
  · rw [setCells_size]
    have h7 := (Array.getElem?_eq_some_iff.1 h1').1
    exact h7

theorem Part.done {α : Type} {E : TypeId} {o : OS α} {z : List Value} {B : Nat} {w : World} {g n : Nat} {xs : List α} (h : Part E o z B w g n n xs) (hn : xs.length = n) (hm : n ≤ 9223372036854775807) : Own (O.slice E o) B w.heap.size w [.slice (some ⟨g, 0, none⟩) n n] xs := by
  obtain ⟨css, fps, h1, h2, h3, h4, h5, h6⟩ := h
  rw [List.take_of_length_le (by omega)] at h2
  simp only [Nat.sub_self, List.replicate_zero, List.flatten_nil, List.append_nil] at h1
  have hl := (o.rows_len h2).2.2
  refine ⟨g :: fps.flatten, ⟨_, css, fps, rfl, by simp [bl, Value.ownBlock], ⟨by rw [hl], .inr ⟨g, n, css.flatten.toArray, by rw [hn], Nat.zero_le _, h1, by omega, by unfold maxLen; omega, by simp only [List.size_toArray]; rw [hl, hn], ?_⟩⟩, h2⟩, h3, ?_⟩
  · simp only []
    exact List.take_of_length_le (by rw [hl]; exact Nat.le_refl _)
  · intro p hp
    rcases List.mem_cons.1 hp with rfl | hp
    · exact ⟨h5, h6⟩
    · exact h4 p hp

end Go.Proofs.YtpgfkjcekhifiaaGreatDoor

namespace Go.Proofs.YtpgfkjcekhifiaaGreatDoor

open Go.RowKit

set_option linter.unusedVariables false

set_option linter.unusedSimpArgs false

theorem rS_open {α : Type} {r : RS α} {w : World} {v : Value} {xs : List α} (h : (R.slice r).rep w [v] xs) : ∃ a cap, v = .slice a xs.length cap ∧ xs.length ≤ cap ∧ cap ≤ 9223372036854775807 ∧ Sl r w a xs.length xs := by
  obtain ⟨a, n, cap, hv, h1, h2, hs⟩ := h
  simp at hv
  have := hs.len
  subst this
  exact ⟨a, cap, hv, h1, h2, hs⟩

theorem rS_form {α : Type} {r : RS α} {w : World} {cs : List Value} {xs : List α} (h : (R.slice r).rep w cs xs) : ∃ b n c, cs = [.slice b n c] := by
  obtain ⟨a, n, cap, hv, _⟩ := h
  exact ⟨_, _, _, hv⟩

theorem oS_form1 {α : Type} {t : TypeId} {o : OS α} {r : RS α} (hr : Reads o r) {lo hi : Nat} {w : World} {v : Value} {xs : List α} (h : Own (O.slice t o) lo hi w [v] xs) : ∃ b n c, v = .slice b n c := by
  obtain ⟨b, n, c, hv⟩ := rS_form (h.rd (Reads.slice t hr))
  simp at hv
  exact ⟨_, _, _, hv⟩

theorem rS_sl {α : Type} {r : RS α} {w : World} {a : Option Addr} {n c : Nat} {xs : List α} (h : (R.slice r).rep w [.slice a n c] xs) : Sl r w a n xs := by
  obtain ⟨a', n', c', hv, h1, h2, hs⟩ := h
  simp at hv
  obtain ⟨rfl, rfl, rfl⟩ := hv
  exact hs

theorem rS_cap {α : Type} {r : RS α} {w : World} {a : Option Addr} {n c : Nat} {xs : List α} (h : (R.slice r).rep w [.slice a n c] xs) : n ≤ c ∧ c ≤ 9223372036854775807 := by
  obtain ⟨a', n', c', hv, h1, h2, hs⟩ := h
  simp at hv
  obtain ⟨rfl, rfl, rfl⟩ := hv
  exact ⟨h1, h2⟩

theorem rI_ints {w : World} {a : Option Addr} {n c : Nat} {xs : List Int} (h : rI.rep w [.slice a n c] xs) : Ints w a n xs := (rS_sl h).ints

theorem Sl.at {α : Type} {r : RS α} {w : World} {a : Option Addr} {n : Nat} {xs : List α} (h : Sl r w a n xs) {k : Nat} (hk : k < n) :
    ∃ b off cs x, a = some ⟨b, off, none⟩ ∧ Hid (xs[k]? = some x) ∧ r.rep w cs x ∧ ∀ j u, cs[j]? = some u → w.cell? ⟨b, off + (k * r.size + j), none⟩ = some u := by
  have hk' : k < xs.length := by rw [h.len]; exact hk
  obtain ⟨b, off, cs, ha, hrep, hc⟩ := h.elem k _ (List.getElem?_eq_getElem hk')
  exact ⟨b, off, cs, _, ha, List.getElem?_eq_getElem hk', hrep, hc⟩

def sumBy {α : Type} (f : α → Nat) (xs : List α) : Nat := (xs.map f).sum

theorem sumBy_drop {α : Type} (f : α → Nat) {xs : List α} {j : Nat} {x : α} (h : xs[j]? = some x) : sumBy f (xs.drop j) = f x + sumBy f (xs.drop (j + 1)) := by
  obtain ⟨h1, rfl⟩ := List.getElem?_eq_some_iff.1 h
  rw [List.drop_eq_getElem_cons h1]; simp only [sumBy, List.map_cons, List.sum_cons]

theorem sumBy_mem {α : Type} (f : α → Nat) {xs : List α} {j : Nat} {x : α} (h : xs[j]? = some x) : f x ≤ sumBy f xs := by
  have h1 := sumBy_drop f h
  have h2 : sumBy f xs = sumBy f (xs.take j) + sumBy f (xs.drop j) := by
    conv => lhs; rw [← List.take_append_drop j xs]
    simp only [sumBy, List.map_append, List.sum_append]
  omega

end Go.Proofs.YtpgfkjcekhifiaaGreatDoor

namespace Go.Proofs.YtpgfkjcekhifiaaGreatDoor

open Go.RowKit

set_option linter.unusedVariables false

set_option linter.unusedSimpArgs false

def Acc {α : Type} (E : TypeId) (o : OS α) (lo S hi : Nat) (w : World) (v : Value) (xs : List α) : Prop :=
  ∃ fp, (O.slice E o).rep w [v] xs fp ∧ fp.Nodup ∧ ∀ k ∈ fp, (k = lo ∨ S ≤ k) ∧ k < hi

theorem Acc.below {α : Type} {E : TypeId} {o : OS α} {lo S hi C : Nat} {w w' : World} {v : Value} {xs : List α} (h : Acc E o lo S hi w v xs) (hb : Below C w w') (hC : hi ≤ C) : Acc E o lo S hi w' v xs := by
  obtain ⟨fp, h1, h2, h3⟩ := h
  exact ⟨fp, (O.slice E o).frame h1 (fun k hk => hb.block k (by have := (h3 k hk).2; omega)), h2, h3⟩

theorem Acc.own {α : Type} {E : TypeId} {o : OS α} {lo S hi hi' B : Nat} {w : World} {v : Value} {xs : List α} (h : Acc E o lo S hi w v xs) (hlo : B ≤ lo) (hS : B ≤ S) (hh : hi ≤ hi') : Own (O.slice E o) B hi' w [v] xs := by
  obtain ⟨fp, h1, h2, h3⟩ := h
  exact ⟨fp, h1, h2, fun k hk => by have := h3 k hk; omega⟩

theorem Acc.of {α : Type} {E : TypeId} {o : OS α} {S hi lo : Nat} {w : World} {v : Value} {xs : List α} (h : Own (O.slice E o) S hi w [v] xs) : Acc E o lo S hi w v xs := by
  obtain ⟨fp, h1, h2, h3⟩ := h
  exact ⟨fp, h1, h2, fun k hk => by have := h3 k hk; omega⟩

theorem Acc.empty {α : Type} {E : TypeId} {o : OS α} {S g hi : Nat} {W : World} (hg : W.heap.size = g) (hh : g < hi) : Acc E o W.heap.size S hi (W.alloc (.cells #[] E)) (.slice (some ⟨g, 0, none⟩) 0 0) [] := by
  subst hg
  obtain ⟨fp, h1, h2, h3⟩ := own_empty_S (E := E) (o := o) (Nat.le_refl W.heap.size)
  exact ⟨fp, h1, h2, fun k hk => by have := h3 k hk; omega⟩

theorem Acc.nil {α : Type} {E : TypeId} {o : OS α} {lo S hi : Nat} {w : World} : Acc E o lo S hi w (.slice none 0 0) [] := by
  obtain ⟨fp, h1, h2, h3⟩ := own_nil_S (E := E) (o := o) (B := 0) (W := w)
  exact ⟨fp, h1, h2, fun k hk => by have := h3 k hk; omega⟩

theorem Acc.form {α : Type} {E : TypeId} {o : OS α} {lo S hi : Nat} {w : World} {v : Value} {xs : List α} (h : Acc E o lo S hi w v xs) : ∃ a cap, v = .slice a xs.length cap := by
  obtain ⟨fp, ⟨v1, css, fps, hv, rfl, hrow, hrows⟩, _⟩ := h
  simp at hv
  subst hv
  obtain ⟨a, cap, rfl, _⟩ := own_form hrow
  exact ⟨a, cap, rfl⟩

theorem Acc.form3 {α : Type} {E : TypeId} {o : OS α} {lo S hi : Nat} {w : World} {v : Value} {xs : List α} (h : Acc E o lo S hi w v xs) : ∃ a n cap, v = .slice a n cap := by
  obtain ⟨a, cap, h⟩ := h.form
  exact ⟨_, _, _, h⟩

theorem Acc.wide {α : Type} {E : TypeId} {o : OS α} {lo S S' hi hi' : Nat} {w : World} {v : Value} {xs : List α} (h : Acc E o lo S hi w v xs) (hS : S' ≤ S) (hh : hi ≤ hi') : Acc E o lo S' hi' w v xs := by
  obtain ⟨fp, h1, h2, h3⟩ := h
  exact ⟨fp, h1, h2, fun k hk => by have := h3 k hk; omega⟩

theorem own_int {lo hi : Nat} {w : World} {u : Int} (hu : I64 u) : Own O.int lo hi w [.int .i64 u] u := ⟨[], ⟨rfl, hu, rfl⟩, by simp, by simp⟩

theorem wpList_acc {α : Type} {T E size bytes : Nat} {z : Value} (hT : Tryz.prog.underlying T = some (.slice E)) (hE : (Tryz.prog.info? E).map (fun i => (i.zero, i.size, i.bytes)) = some (some z, size, bytes)) (hz : z.cells.size = size) (hpos : 0 < size) (hby : bytes ≤ 1000)
    {o' : OS α} (hsz : o'.size = size) {lo S hi9 h1 h2 g9 : Nat} {W0 W : World} {ops : Array Oper} {rest : List Oper} {o : Oper} {a : Act} {Q : Exit → Act → World → Prop}
    (s x : Operand) (v : Value) (xs : List α) (c : List Value) (y : α)
    (hown : Acc E o' lo S hi9 W v xs) (hy : Own o' h1 h2 W c y) (hone : ∀ u ∈ c, u.oneCell' = true) (hS1 : S ≤ h1) (hhi : hi9 ≤ h1) (hh : h1 ≤ h2) (hW : h2 ≤ W.heap.size) (ht : Turn lo (lo + 1) W0 W) (hS : W0.heap.size = S) (hlo : lo < S) (hn : xs.length ≤ 100000000) (hg9 : W.heap.size = g9)
    (hgd : o.guard = none) (ho : o.op = .call { callee := .builtin .append, args := #[s, x], argTypes := #[T, T] })
    (hs : a.eval s = v) (hx : a.eval x = .slice (some ⟨g9, 0, none⟩) 1 1)
    (h : ∀ v' w', Acc E o' lo S w'.heap.size w' v' (xs ++ [y]) → Turn lo (lo + 1) W0 w' → W.heap.size < w'.heap.size → wpList Tryz.prog ops Q rest (a.put o.dst v') w') :
    wpList Tryz.prog ops Q (o :: rest) a (W.alloc (.cells c.toArray E)) := by
  subst hg9
  obtain ⟨i, hi, hz0, hz1, hz2⟩ := info_parts hE
  obtain ⟨fp, ⟨v1, css, fps, hv, rfl, hrow, hrows⟩, hnd, hlim⟩ := hown
  obtain ⟨fy, hyr, hynd, hylim⟩ := hy
  have hts := ht.size
  simp at hv
  subst hv
  obtain ⟨av, cap, rfl, _⟩ := own_form hrow
  have hclen : c.length = size := by rw [← hsz]; exact o'.len hyr
  rw [hsz] at hrow
  have hnl := List.nodup_append.1 hnd
  have hnew : Below W.heap.size W (W.alloc (.cells c.toArray E)) := (Below.refl _ _).alloc (Nat.le_refl _) _
  have hrow1 := own_below hrow hnew (Nat.le_refl _)
  have hrlen := o'.rows_len hrows
  have hlt : ∀ k ∈ bl (.slice av xs.length cap) ++ fps.flatten, k < W.heap.size := fun k hk => by have := (hlim k hk).2; omega
  have hby2 : (xs.length + 1) * bytes ≤ 140737488355328 := Nat.le_trans (Nat.mul_le_mul (show xs.length + 1 ≤ 100000001 by omega) hby) (by decide)
  have hfy : ∀ k ∈ fy, k ∉ bl (.slice av xs.length cap) ++ fps.flatten := fun k hk hm => by have := (hlim k hm).2; have := hylim k hk; omega
  have fin : ∀ (v' : Value) (w' : World), w'.ownsRow 0 E size v' (xs.length + 1) (css.flatten ++ c) → (∀ k, k ∈ fps.flatten ++ fy → w'.heap[k]? = W.heap[k]?) → Turn lo (lo + 1) W0 w' → W.heap.size < w'.heap.size →
      (∀ k ∈ bl v', ((k = lo ∨ S ≤ k) ∧ k < w'.heap.size) ∧ k ∉ fps.flatten ∧ k ∉ fy) → wpList Tryz.prog ops Q rest (a.put o.dst v') w' := by
    intro v' w' h3 h4 h5 h6 h7
    refine h v' w' ⟨bl v' ++ (fps ++ [fy]).flatten, ⟨v', css ++ [c], fps ++ [fy], rfl, rfl, ?_, ?_⟩, ?_, ?_⟩ h5 h6
    · rw [hsz]; simpa using h3
    · exact o'.rows_snoc (o'.frame hyr (fun k hk => h4 k (List.mem_append_right _ hk))) (o'.rows_frame hrows (fun k hk => h4 k (List.mem_append_left _ hk)))
    · rw [List.flatten_append, List.nodup_append]
      refine ⟨by unfold bl; cases v'.ownBlock <;> simp, ?_, ?_⟩
      · rw [List.nodup_append]
        refine ⟨hnl.2.1, by simpa using hynd, ?_⟩
        intro p hp q hq e
        subst e
        exact hfy p (by simpa using hq) (List.mem_append_right _ hp)
      · intro p hp q hq e
        subst e
        have h8 := h7 p hp
        rcases List.mem_append.1 hq with hq | hq
        · exact h8.2.1 hq
        · exact h8.2.2 (by simpa using hq)
    · intro k hk
      rcases List.mem_append.1 hk with hk | hk
      · exact (h7 k hk).1
      · simp only [List.flatten_append, List.mem_append] at hk
        rcases hk with hk | hk
        · have := hlim k (List.mem_append_right _ hk); omega
        · have := hylim k (by simpa using hk); omega
  by_cases hroom : xs.length + 1 ≤ cap
  · -- there is room: the same block
    rcases hrow1.2 with ⟨hv, _⟩ | ⟨g, cap', cur, hv, hB0, hg, hnc, hcm, hcs, htake⟩
    · simp at hv; omega
    · simp at hv
      obtain ⟨rfl, rfl⟩ := hv
      refine wpList_append_fits _ hgd s x T ho 0 E i size hT hi hz1 g xs.length cap css.flatten hs hrow1 ⟨W.heap.size, 0, none⟩ 1 1 c hx (by omega) (fresh_cells W c E) hone hroom ?_
      intro w' h3 h4
      have hgB := hlim g (by simp [bl, Value.ownBlock])
      refine fin _ w' h3 (fun k hk => ?_) ?_ ?_ ?_
      · have hkl : k < W.heap.size := by
          rcases List.mem_append.1 hk with hk | hk
          · exact hlt k (List.mem_append_right _ hk)
          · have := hylim k hk; omega
        rw [h4.block k (by simp; omega) ?_, Below.heap_alloc W _ k hkl]
        intro e
        simp at e
        subst e
        rcases List.mem_append.1 hk with hk | hk
        · exact hnl.2.2 k (by simp [bl, Value.ownBlock]) k hk rfl
        · exact hfy k hk (by simp [bl, Value.ownBlock])
      · refine ⟨h4.os.trans ht.os, h4.tape.trans ht.tape, h4.output.trans ht.output, by have := h4.size; simp at this; omega, fun k hk hx => ?_⟩
        rw [h4.block k (by simp; omega) (by intro e; simp at e; omega), Below.heap_alloc W _ k (by omega)]
        exact ht.block k hk hx
      · have := h4.size; simp at this; omega
      · intro k hk
        simp [bl, Value.ownBlock] at hk
        subst hk
        refine ⟨⟨hgB.1, by have := h4.size; simp at this; omega⟩, fun hm => hnl.2.2 k (by simp [bl, Value.ownBlock]) k hm rfl, fun hm => ?_⟩
        exact hfy k hm (by simp [bl, Value.ownBlock])
  · refine wpList_append_grows _ hgd s x T ho E i z size bytes hT hi hz0 hz1 hz2 hz hpos av xs.length cap css.flatten hs ?_ hrow1.1 ?_ ⟨W.heap.size, 0, none⟩ 1 1 c hx (by omega) (fresh_cells W c E) hone (by omega) (by unfold maxLen; omega) hby2 ?_
    · intro e
      subst e
      rcases hrow1.2 with ⟨hv, h0⟩ | ⟨g, cap', cur, hv, _⟩
      · simp at hv; exact ⟨h0, hv.2⟩
      · simp at hv
    · intro b hbv j u hu
      obtain ⟨g, hg, hcell⟩ := own_cell hrow1 j u hu
      rw [hbv] at hg
      simp at hg
      subst hg
      rw [add_zero_addr]
      exact hcell
    · intro v' w' h3 h4
      refine fin v' w' (own_base h3 (Nat.zero_le _)) (fun k hk => ?_) ?_ ?_ ?_
      · have hkl : k < W.heap.size := by
          rcases List.mem_append.1 hk with hk | hk
          · exact hlt k (List.mem_append_right _ hk)
          · have := hylim k hk; omega
        rw [h4.block k (by simp; omega) (by simp), Below.heap_alloc W _ k hkl]
      · refine ⟨h4.os.trans ht.os, h4.tape.trans ht.tape, h4.output.trans ht.output, by have := h4.size; simp at this; omega, fun k hk hx => ?_⟩
        rw [h4.block k (by simp; omega) (by simp), Below.heap_alloc W _ k (by omega)]
        exact ht.block k hk hx
      · have := h4.size; simp at this; omega
      · intro k hk
        have h5 := h3.lt k (by simpa [bl] using hk)
        simp at h5
        refine ⟨⟨by omega, by omega⟩, fun hm => ?_, fun hm => ?_⟩
        · have := hlt k (List.mem_append_right _ hm); omega
        · have := hylim k hm; omega

theorem wpList_accI {lo S hi9 g9 : Nat} {W0 W : World} {ops : Array Oper} {rest : List Oper} {o : Oper} {a : Act} {Q : Exit → Act → World → Prop}
    (s x : Operand) (v : Value) (xs : List Int) (u : Int)
    (hown : Acc 3 O.int lo S hi9 W v xs) (ht : Turn lo (lo + 1) W0 W) (hS : W0.heap.size = S) (hlo : lo < S) (hhi : hi9 ≤ W.heap.size) (hu : I64 u) (hn : xs.length ≤ 100000000) (hg9 : W.heap.size = g9)
    (hgd : o.guard = none) (ho : o.op = .call { callee := .builtin .append, args := #[s, x], argTypes := #[27, 27] })
    (hs : a.eval s = v) (hx : a.eval x = .slice (some ⟨g9, 0, none⟩) 1 1)
    (h : ∀ v' w', Acc 3 O.int lo S w'.heap.size w' v' (xs ++ [u]) → Turn lo (lo + 1) W0 w' → W.heap.size < w'.heap.size → wpList Tryz.prog ops Q rest (a.put o.dst v') w') :
    wpList Tryz.prog ops Q (o :: rest) a (W.alloc (.cells #[.int .i64 u] 3)) := by
  have hts := ht.size
  exact wpList_acc Tryz.underlying27 infoInt rfl (by decide) (by decide) rfl s x v xs [.int .i64 u] u hown (own_int (lo := W.heap.size) (hi := W.heap.size) hu) (by intro z hz; simp at hz; subst hz; rfl) (by omega) hhi (Nat.le_refl _) (Nat.le_refl _) ht hS hlo hn hg9 hgd ho hs hx h

end Go.Proofs.YtpgfkjcekhifiaaGreatDoor


