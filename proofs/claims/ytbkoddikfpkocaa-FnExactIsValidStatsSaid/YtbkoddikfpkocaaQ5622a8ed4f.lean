/- Texts joined for one claim: RegLast, RowB, Canon, Copy, KGl, KQ, KTl, MarkG, OGs, ValidAn, ValidT, AccR, ColsOk, DedP, Eqs, KDb. -/
import Derived.Test.YtbkoddikfpkocaaQ62af63ca7e
import Derived.Orders
import Derived.Deep.RegionHeld3
import Derived.Deep.AppendSrc
import Derived.Maps.AppendAt

/- A region that draws its order, whose last operation waits for all the others. -/
namespace Go.Proofs.Ytbkoddikfpkocaa
open Go.RowKit
set_option linter.unusedVariables false

/-- What is asked behind all but the last. -/
def LastQ (P : Program) (o : Oper) (Q : Exit → Act → World → Prop) : Exit → Act → World → Prop
  | .normal, a, w => Oper.wp P o a w (fun a' w' => Q .normal a' w') Q
  | e, a, w => Q e a w

theorem oper_wp_lastQ {P : Program} {Q : Exit → Act → World → Prop} {o l : Oper} {a : Act} {w : World} {K : Act → World → Prop} (h : o.wp P a w K (LastQ P l Q)) : o.wp P a w K Q := by
  unfold Oper.wp at *
  generalize (execOp a.eval o).run P w = r at *
  cases r with
  | ok n w' =>
    cases n <;> simp only [Oper.upon] at h ⊢ <;>
      first
        | exact h
        | exact Calls.mono h (fun e w'' he => by cases e <;> first | exact he | exact he)
        | exact Rows.mono h (fun _ _ he => he)
  | halt x w' => cases x <;> simp only [Oper.upon] at h ⊢ <;> exact h

/-- Edges backward, no guards, and the last waits for all. -/
structure LastOk (md : Region.Mode) (ops : Array Oper) (l : Oper) : Prop where
  op : ∀ i o, ops[i]? = some o → o.guard = none ∧ (∀ e ∈ o.after, e.on < i) ∧ ∃ e ∈ l.after, Region.binds md e = true ∧ e.on = i
  last : l.guard = none ∧ ∀ e ∈ l.after, e.on < ops.size
def lastOk (md : Region.Mode) (ops : Array Oper) (l : Oper) : Bool :=
  (List.range ops.size).all (fun i => match ops[i]? with
    | some o => o.guard.isNone && (o.after.toList.all (fun e => decide (e.on < i)) && l.after.toList.any (fun e => Region.binds md e && decide (e.on = i)))
    | none => true) && (l.guard.isNone && l.after.toList.all (fun e => decide (e.on < ops.size)))
theorem LastOk.of {md : Region.Mode} {ops : Array Oper} {l : Oper} (h : lastOk md ops l = true) : LastOk md ops l := by
  simp only [lastOk, Bool.and_eq_true, List.all_eq_true, List.mem_range] at h
  obtain ⟨h1, h2, h3⟩ := h
  refine ⟨fun i o ho => ?_, by simpa using h2, fun e he => by have := h3 e (Array.mem_toList_iff.2 he); simpa using this⟩
  have hlt : i < ops.size := (Array.getElem?_eq_some_iff.1 ho).1
  have h4 := h1 i hlt
  rw [ho] at h4
  simp only [Bool.and_eq_true, List.all_eq_true, List.any_eq_true, decide_eq_true_eq] at h4
  obtain ⟨h5, h6, e, he, h7, h8⟩ := h4
  exact ⟨by simpa using h5, fun e he => h6 e (Array.mem_toList_iff.2 he), e, Array.mem_toList_iff.1 he, h7, h8⟩

theorem getD_push_lt {L : Array Bool} {i : Nat} (d : Bool) (h : i < L.size) : (L.push false).getD i d = L.getD i d := by
  simp [Array.getElem?_push_lt, h]
theorem mem_ready_push {md : Region.Mode} {ops : Array Oper} {l : Oper} (hok : LastOk md ops l) {L : Array Bool} (hL : L.size = ops.size) {i : Nat} (hi : i < ops.size) :
    i ∈ Region.ready md (ops.push l) (L.push false) ↔ i ∈ Region.ready md ops L := by
  rw [mem_ready, mem_ready, getD_push_lt true (by omega), Array.getElem?_push_lt hi, Array.getElem?_eq_getElem hi]
  constructor
  · rintro ⟨h0, o, ho, h⟩
    refine ⟨h0, o, ho, fun e he hb => ?_⟩
    have := h e he hb
    rwa [getD_push_lt false (by have := (hok.op i o (by rw [Array.getElem?_eq_getElem hi]; exact ho)).2.1 e he; omega)] at this
  · rintro ⟨h0, o, ho, h⟩
    refine ⟨h0, o, ho, fun e he hb => ?_⟩
    rw [getD_push_lt false (by have := (hok.op i o (by rw [Array.getElem?_eq_getElem hi]; exact ho)).2.1 e he; omega)]
    exact h e he hb
theorem all_listed {md : Region.Mode} {ops : Array Oper} {l : Oper} (hok : LastOk md ops l) {L : Array Bool} (hL : L.size = ops.size) (hr : Region.ready md ops L = []) : ∀ i, i < ops.size → L.getD i true = true := by
  intro i
  induction i using Nat.strongRecOn with
  | _ i ih =>
    intro hi
    cases h : L.getD i true with
    | true => rfl
    | false =>
      have : i ∈ Region.ready md ops L := by
        rw [mem_ready]
        refine ⟨h, ops[i], Array.getElem?_eq_getElem hi, fun e he hb => ?_⟩
        have hlt := (hok.op i ops[i] (Array.getElem?_eq_getElem hi)).2.1 e he
        have := ih e.on hlt (by omega)
        have h9 : e.on < L.size := by omega
        simpa [h9] using this
      rw [hr] at this
      cases this

theorem mem_ready_last {md : Region.Mode} {ops : Array Oper} {l : Oper} (hok : LastOk md ops l) {L : Array Bool} (hL : L.size = ops.size) : ops.size ∈ Region.ready md (ops.push l) (L.push false) ↔ ∀ i, i < ops.size → L.getD i true = true := by
  rw [mem_ready]
  constructor
  · rintro ⟨_, o, ho, h⟩ i hi
    rw [Array.getElem?_push_size] at ho
    obtain rfl := Option.some.inj ho
    obtain ⟨e, he, hb, rfl⟩ := (hok.op i ops[i] (Array.getElem?_eq_getElem hi)).2.2
    have := h e he hb
    rw [getD_push_lt false (by omega)] at this
    have h9 : e.on < L.size := by omega
    simpa [h9] using this
  · intro h
    refine ⟨?_, l, Array.getElem?_push_size, fun e he hb => ?_⟩
    · rw [← hL]; simp
    · have h8 := hok.last.2 e he
      rw [getD_push_lt false (by omega)]
      have := h e.on h8
      have h9 : e.on < L.size := by omega
      simpa [h9] using this
theorem ready_full {md : Region.Mode} {ops : Array Oper} {L : Array Bool} (h : ∀ i, i < ops.size → L.getD i true = true) : Region.ready md ops L = [] := by
  apply List.eq_nil_iff_forall_not_mem.2
  intro i hi
  obtain ⟨h0, o, ho, _⟩ := mem_ready.1 hi
  rw [h i (Array.getElem?_eq_some_iff.1 ho).1] at h0
  cases h0

/-- A region, but for its last operation, with that behind it. -/
theorem wpAny_last {P : Program} {md : Region.Mode} {ops : Array Oper} {l : Oper} {Q : Exit → Act → World → Prop} (hok : LastOk md ops l) : ∀ (fuel : Nat) (L : Array Bool) (a : Act) (w : World), L.size = ops.size →
    wpAny P md ops (LastQ P l Q) fuel L a w → wpAny P md (ops.push l) Q (fuel + 1) (L.push false) a w := by
  have full : ∀ (fuel : Nat) (L : Array Bool) (a : Act) (w : World), L.size = ops.size → (∀ i, i < ops.size → L.getD i true = true) → Oper.wp P l a w (fun a' w' => Q .normal a' w') Q → wpAny P md (ops.push l) Q (fuel + 1) (L.push false) a w := by
    intro fuel L a w hL hall h
    have hin := (mem_ready_last hok hL).2 hall
    refine ⟨fun h0 => absurd (h0 ▸ hin) (by simp), fun i hi => ?_⟩
    have hin2 : i = ops.size := by
      obtain ⟨h0, o, ho, _⟩ := mem_ready.1 hi
      have hlt := (Array.getElem?_eq_some_iff.1 ho).1
      rw [Array.size_push] at hlt
      rcases Nat.lt_or_ge i ops.size with h9 | h9
      · rw [getD_push_lt true (by omega), hall i h9] at h0; cases h0
      · omega
    subst hin2
    have hset : (L.push false).setIfInBounds ops.size true = L.push true := by
      rw [← hL]
      apply Array.ext_getElem?
      intro j
      by_cases hij : L.size = j
      · subst hij
        simp
      · rw [Array.getElem?_setIfInBounds_ne hij, Array.getElem?_push, Array.getElem?_push]
        simp [Ne.symm hij]
    have hr0 : Region.ready md (ops.push l) (L.push true) = [] := by
      apply ready_full
      intro j hj
      rw [Array.size_push] at hj
      rcases Nat.lt_or_ge j ops.size with h9 | h9
      · have := hall j h9
        have h8 : j < L.size := by omega
        simpa [Array.getElem?_push_lt, h8] using this
      · have : j = L.size := by omega
        subst this; simp
    unfold wpOp
    rw [Array.getElem?_push_size]
    simp only []
    rw [if_pos (by simp [Region.wanted, hok.last.1]), hset]
    refine .inl (Oper.wp_mono (fun a' w' h9 => ?_) h)
    cases fuel with
    | zero => exact ⟨hr0, h9⟩
    | succ f => exact ⟨fun _ => h9, by rw [hr0]; simp⟩
  intro fuel
  induction fuel with
  | zero =>
    intro L a w hL h
    exact full 0 L a w hL (all_listed hok hL h.1) h.2
  | succ f ih =>
    intro L a w hL h
    by_cases hr : Region.ready md ops L = []
    · exact full (f + 1) L a w hL (all_listed hok hL hr) (h.1 hr)
    · refine ⟨fun h0 => ?_, fun i hi => ?_⟩
      · obtain ⟨i, hi⟩ := List.exists_mem_of_ne_nil _ hr
        have hlt : i < ops.size := by obtain ⟨_, o, ho, _⟩ := mem_ready.1 hi; exact (Array.getElem?_eq_some_iff.1 ho).1
        have := (mem_ready_push hok hL hlt).2 hi
        rw [h0] at this
        cases this
      · have hlt : i < ops.size := by
          obtain ⟨h0, o, ho, _⟩ := mem_ready.1 hi
          have h9 := (Array.getElem?_eq_some_iff.1 ho).1
          rw [Array.size_push] at h9
          rcases Nat.lt_or_ge i ops.size with h8 | h8
          · exact h8
          · have h7 : i = ops.size := by omega
            subst h7
            exact absurd (ready_full ((mem_ready_last hok hL).1 hi)) hr
        have h1 := h.2 i ((mem_ready_push hok hL hlt).1 hi)
        have hset : (L.push false).setIfInBounds i true = (L.setIfInBounds i true).push false := by
          have hLt : i < L.size := by omega
          apply Array.ext_getElem?
          intro j
          by_cases hij : i = j
          · subst hij
            simp [Array.getElem?_push, Array.getElem?_setIfInBounds, hLt, Nat.ne_of_lt hLt]
            try omega
          · rw [Array.getElem?_setIfInBounds_ne hij, Array.getElem?_push, Array.getElem?_push, Array.getElem?_setIfInBounds_ne hij]
            simp
        rw [hset]
        unfold wpOp at h1 ⊢
        rw [Array.getElem?_push_lt hlt]
        rw [Array.getElem?_eq_getElem hlt] at h1
        have hg := (hok.op i ops[i] (Array.getElem?_eq_getElem hlt)).1
        simp only [] at h1 ⊢
        rw [if_pos (by simp [Region.wanted, hg])] at h1 ⊢
        rcases h1 with h1 | ⟨h1, h2⟩
        · exact .inl (Oper.wp_mono (fun a' w' h9 => ih _ a' w' (by simp [hL]) h9) (oper_wp_lastQ h1))
        · exact .inr ⟨h1, h2⟩

/-- THE BEGINNING: S is asked behind every operation but the last. -/
theorem wp_region_lastH {P : Program} {id : Nat} {ops0 : Array Oper} {Q : Exit → Act → World → Prop} {a : Act} {w : World} (S : World → Prop) (ops : Array Oper) (l : Oper) (he : ops0 = ops.push l) (hm : P.follows .mixedOrders = true) (hok : lastOk .any ops l = true)
    (h : wpAnyH P .any ops (LastQ P l Q) S ops.size (Array.replicate ops.size false) a w.drew) : (Code.region id ops0 true).wp P Q a w := by
  subst he
  refine wp_region_any hm ?_
  have h1 := wpAny_last (LastOk.of hok) ops.size (Array.replicate ops.size false) a w.drew (by simp) (wpAny_of_held _ _ _ _ h)
  have h2 : (Array.replicate ops.size false).push false = Array.replicate (ops.push l).size false := by
    rw [Array.size_push, Array.replicate_succ]
  rw [h2] at h1
  rw [Array.size_push]
  rw [Array.size_push] at h1
  exact h1

theorem wp_region_lastP {P : Program} {id : Nat} {ops0 : Array Oper} {Q : Exit → Act → World → Prop} {a : Act} {w : World} (S : World → Prop) (k : Nat) {l : Oper} (hk : ops0.size = k + 1) (hl : ops0[k]? = some l) (hm : P.follows .mixedOrders = true) (hok : lastOk .any ops0.pop l = true) (hS : S w.drew)
    (h : S w.drew → ∀ ops, ops = ops0.pop → wpAnyH P .any ops (LastQ P l Q) S k (Array.replicate k false) a w.drew) : (Code.region id ops0 true).wp P Q a w := by
  have h1 := h hS ops0.pop rfl
  have hs : ops0.pop.size = k := by rw [Array.size_pop, hk]; rfl
  refine wp_region_lastH S ops0.pop l ?_ hm hok (by rw [hs]; exact h1)
  apply Array.ext_getElem?
  intro i
  rw [Array.getElem?_push]
  by_cases hi : i = ops0.pop.size
  · subst hi; rw [hs, hl]; simp
  · rw [if_neg hi, Array.getElem?_pop]
    by_cases h9 : i < ops0.size - 1
    · rw [if_pos h9]
    · rw [if_neg h9, Array.getElem?_eq_none (by omega)]

end Go.Proofs.Ytbkoddikfpkocaa

/- Contracts: rows of ints: in range, ascending. -/
namespace Go.Proofs.Ytbkoddikfpkocaa
open Go.RowKit
set_option linter.unusedVariables false
set_option linter.unusedSimpArgs false

/-- A row: all values in range, so many. -/
def rowB (row : List Int) (n : Int) : Bool := row.all (fun v => betw v 0 9) && decide ((row.length : Int) = n)
def rowsB (n : Int) (rows : List (List Int)) : Bool := rows.all (fun r => rowB r n)
/-- Rows strictly ascending. -/
def ascB : List (List Int) → Bool
  | a :: b :: t => decide (cmpRows a b < 0) && ascB (b :: t)
  | _ => true
theorem all_at {p : Int → Bool} {xs : List Int} {j : Nat} {x : Int} (hj : j < xs.length) (hx : xs.getD j 0 = x) : (xs.drop j).all p = (p x && (xs.drop (j + 1)).all p) := by
  rw [drop_cons xs j hj, hx]; rfl
theorem all_end {p : Int → Bool} {xs : List Int} {j : Nat} (hj : xs.length ≤ j) : (xs.drop j).all p = true := by
  rw [List.drop_eq_nil_of_le hj]; rfl
theorem drop_at {α : Type} {xs : List α} {j : Nat} {x : α} (h : xs[j]? = some x) : xs.drop j = x :: xs.drop (j + 1) := by
  obtain ⟨h1, rfl⟩ := List.getElem?_eq_some_iff.1 h
  exact List.drop_eq_getElem_cons h1
theorem rowsB_at {n : Int} {rows : List (List Int)} {j : Nat} {r : List Int} (h : rows[j]? = some r) : rowsB n (rows.drop j) = (rowB r n && rowsB n (rows.drop (j + 1))) := by
  rw [drop_at h]; rfl
theorem rowsB_end {n : Int} {rows : List (List Int)} {j : Nat} (hj : rows.length ≤ j) : rowsB n (rows.drop j) = true := by
  rw [List.drop_eq_nil_of_le hj]; rfl
theorem ascB_at {rows : List (List Int)} {j : Nat} {r s : List Int} (h : rows[j]? = some r) (h' : rows[j + 1]? = some s) : ascB (rows.drop j) = (decide (cmpRows r s < 0) && ascB (rows.drop (j + 1))) := by
  rw [drop_at h, drop_at h']; rfl
theorem ascB_end {rows : List (List Int)} {j : Nat} (hj : rows.length ≤ j + 1) : ascB (rows.drop j) = true := by
  have : (rows.drop j).length ≤ 1 := by rw [List.length_drop]; omega
  match h : rows.drop j, this with
  | [], _ => rfl
  | [a], _ => rfl

theorem rowB_no {row : List Int} {n : Int} {j : Nat} (h : rowB row n = ((row.drop j).all (fun v => betw v 0 9) && decide ((row.length : Int) = n))) {x : Int} (hj : j < row.length) (hx : row.getD j 0 = x) (hb : betw x 0 9 = false) : rowB row n = false := by
  rw [h, all_at hj hx, hb]; rfl

set_option maxHeartbeats 400000 in
theorem rowOk_any (a : Option Addr) (n cap : Nat) (xs : List Int) (m : Int) (w : World) (h : Ints w a n xs) :
    Calls Try.prog 185 #[.slice a n cap, .int .i64 m] w fun e w' => e = .returned (.bool (rowB xs m)) ∧ w = w' := by
  have hn := h.small
  have hl := h.len
  go_enter Try.func185, Try.ntmps185
  go_wp2
  go_loop [9] (fun k => ∃ j : Nat, j ≤ n ∧ k = .int .i64 j ∧ Hid (rowB xs m = ((xs.drop j).all (fun v => betw v 0 9) && decide ((xs.length : Int) = m)))) (fun k => n - (intOf k).toNat)
  case atStart => exact ⟨0, Nat.zero_le _, rfl, by simp [Hid, rowB]⟩
  case round =>
    obtain ⟨j, hj, rfl, hE⟩ := hrel
    by_cases hlt : j < n
    · obtain ⟨b, off, x, rfl, hc, hx, _, _⟩ := h.get hlt
      by_cases hb : betw x 0 9 = true
      · have HE := Lib.hid (hE.out.trans (show _ = ((xs.drop (j + 1)).all (fun v => betw v 0 9) && decide ((xs.length : Int) = m)) by rw [all_at (by omega) hx.out, hb, Bool.true_and]))
        clear h hl
        go_wp2_with fail
        refine (within_any _ _ _ _).mono ?_
        rintro e w' ⟨rfl, rfl⟩
        go_wp2_with fail
        go_round
        case rel => exact ⟨j + 1, by omega, by go_num, HE.out⟩
        case measure => simp [intOf]; omega
      · replace hb : betw x 0 9 = false := by simpa using hb
        have HE := Lib.hid (rowB_no hE.out (by omega) hx.out hb)
        clear h hl
        go_wp2_with fail
        refine (within_any _ _ _ _).mono ?_
        rintro e w' ⟨rfl, rfl⟩
        go_wp2_with fail
        go_ret
        exact ⟨ret_bool HE.out.symm, rfl⟩
    · have HE := Lib.hid (show decide ((n : Int) = m) = rowB xs m by rw [hE.out, all_end (by omega), hl, Bool.true_and])
      clear h hl
      go_wp2_with fail
      go_ret
      exact ⟨ret_bool (by rw [← HE.out]; rfl), rfl⟩

set_option maxHeartbeats 400000 in
theorem l4Row_any (a : Option Addr) (n cap : Nat) (xs : List Int) (m : Int) (w : World) (h : Ints w a n xs) :
    Calls Try.prog 103 #[.slice a n cap, .int .i64 m] w fun e w' => e = .returned (.bool (rowB xs m)) ∧ w = w' := by
  have hn := h.small
  have hl := h.len
  go_enter Try.func103, Try.ntmps103
  go_wp2
  go_loop [5] (fun k => ∃ j : Nat, j ≤ n ∧ k = .int .i64 j ∧ Hid (rowB xs m = ((xs.drop j).all (fun v => betw v 0 9) && decide ((xs.length : Int) = m)))) (fun k => n - (intOf k).toNat)
  case atStart => exact ⟨0, Nat.zero_le _, rfl, by simp [Hid, rowB]⟩
  case round =>
    obtain ⟨j, hj, rfl, hE⟩ := hrel
    by_cases hlt : j < n
    · obtain ⟨b, off, x, rfl, hc, hx, _, _⟩ := h.get hlt
      by_cases hb : betw x 0 9 = true
      · have HE := Lib.hid (hE.out.trans (show _ = ((xs.drop (j + 1)).all (fun v => betw v 0 9) && decide ((xs.length : Int) = m)) by rw [all_at (by omega) hx.out, hb, Bool.true_and]))
        clear h hl
        go_wp2_with fail
        refine (l1In_any _ _ _ _).mono ?_
        rintro e w' ⟨rfl, rfl⟩
        go_wp2_with fail
        go_round
        case rel => exact ⟨j + 1, by omega, by go_num, HE.out⟩
        case measure => simp [intOf]; omega
      · replace hb : betw x 0 9 = false := by simpa using hb
        have HE := Lib.hid (rowB_no hE.out (by omega) hx.out hb)
        clear h hl
        go_wp2_with fail
        refine (l1In_any _ _ _ _).mono ?_
        rintro e w' ⟨rfl, rfl⟩
        go_wp2_with fail
        go_ret
        exact ⟨ret_bool HE.out.symm, rfl⟩
    · have HE := Lib.hid (show decide ((n : Int) = m) = rowB xs m by rw [hE.out, all_end (by omega), hl, Bool.true_and])
      clear h hl
      go_wp2_with fail
      go_ret
      exact ⟨ret_bool (by rw [← HE.out]; rfl), rfl⟩

theorem isNaN_any (x : Int) (w : World) :
    Calls Try.prog 227 #[.int .i64 x] w fun e w' => e = .returned (.bool false) ∧ w = w' := by
  go_enter Try.func227, Try.ntmps227
  go_wp2
  go_ret
  exact ⟨rfl, rfl⟩
/-- Numbers compared. -/
def cmpI (x y : Int) : Int := if x < y then -1 else if y < x then 1 else 0
theorem cmpI_any (x y : Int) (w : World) :
    Calls Try.prog 236 #[.int .i64 x, .int .i64 y] w fun e w' => e = .returned (.int .i64 (cmpI x y)) ∧ w = w' := by
  have HE1 := Lib.hid (show x < y → cmpI x y = -1 from fun h => by simp [cmpI, h])
  have HE2 := Lib.hid (show y < x → cmpI x y = 1 from fun h => by simp only [cmpI]; rw [if_neg (by omega), if_pos h])
  have HE3 := Lib.hid (show ¬ x < y → ¬ y < x → cmpI x y = 0 from fun h h' => by simp [cmpI, h, h'])
  go_enter Try.func236, Try.ntmps236
  go_wp2_with fail
  refine (isNaN_any _ _).mono ?_
  rintro e w' ⟨rfl, rfl⟩
  go_wp2_with fail
  refine (isNaN_any _ _).mono ?_
  rintro e w' ⟨rfl, rfl⟩
  by_cases h1 : x < y
  · go_wp2_with fail
    go_ret
    exact ⟨ret_int (HE1.out (by omega)).symm, rfl⟩
  · by_cases h2 : y < x
    · go_wp2_with fail
      go_ret
      exact ⟨ret_int (HE2.out (by omega)).symm, rfl⟩
    · go_wp2_with fail
      go_ret
      exact ⟨ret_int (HE3.out (by omega) (by omega)).symm, rfl⟩

set_option maxHeartbeats 800000 in
theorem compare_any (a b : Option Addr) (n m cap cap' : Nat) (xs ys : List Int) (w : World) (h : Ints w a n xs) (h' : Ints w b m ys) :
    Calls Try.prog 218 #[.slice a n cap, .slice b m cap'] w fun e w' => e = .returned (.int .i64 (cmpRows xs ys)) ∧ w = w' := by
  have hn := h.small
  have hm := h'.small
  have hl := h.len
  have hl' := h'.len
  go_enter Try.func218, Try.ntmps218
  go_wp2
  go_loop [11] (fun i => ∃ j : Nat, j ≤ n ∧ j ≤ m ∧ i = .int .i64 j ∧ Hid (cmpRows xs ys = cmpRows (xs.drop j) (ys.drop j))) (fun i => n - (intOf i).toNat)
  case atStart => exact ⟨0, Nat.zero_le _, Nat.zero_le _, rfl, rfl⟩
  case round =>
    obtain ⟨j, hj, hjm, rfl, hE⟩ := hrel
    by_cases hlt : j < n
    · by_cases hlm : j < m
      · obtain ⟨b1, o1, x, rfl, hc1, hx, _, _⟩ := h.get hlt
        obtain ⟨b2, o2, y, rfl, hc2, hy, _, _⟩ := h'.get hlm
        have HD := Lib.hid (show cmpRows xs ys = cmpRows (x :: xs.drop (j + 1)) (y :: ys.drop (j + 1)) by rw [hE.out, h.drop hlt hx, h'.drop hlm hy])
        have hcall := cmpI_any x y w
        clear hl hl' h h'
        by_cases h1 : x < y
        · have HE := Lib.hid (HD.out.trans (cmp_lt h1))
          rw [show cmpI x y = -1 by simp [cmpI, h1]] at hcall
          have HC := Lib.hid hcall
          clear hcall h1
          go_wp2_with fail
          refine (HC.out).mono ?_
          rintro e w' ⟨rfl, rfl⟩
          go_wp2_with fail
          go_ret
          exact ⟨ret_int HE.out.symm, rfl⟩
        · by_cases h2 : y < x
          · have HE := Lib.hid (HD.out.trans (cmp_gt h2))
            rw [show cmpI x y = 1 by simp [cmpI, h1, h2]] at hcall
            have HC := Lib.hid hcall
            clear hcall h1 h2
            go_wp2_with fail
            refine (HC.out).mono ?_
            rintro e w' ⟨rfl, rfl⟩
            go_wp2_with fail
            go_ret
            exact ⟨ret_int HE.out.symm, rfl⟩
          · have HE := Lib.hid (HD.out.trans (cmp_eq (show x = y by omega)))
            rw [show cmpI x y = 0 by simp [cmpI, h1, h2]] at hcall
            have HC := Lib.hid hcall
            clear hcall h1 h2
            go_wp2_with fail
            refine (HC.out).mono ?_
            rintro e w' ⟨rfl, rfl⟩
            go_wp2_with fail
            go_round
            case rel => exact ⟨j + 1, by omega, by omega, by go_num, HE.out⟩
            case measure => simp [intOf]; omega
      · have HE := Lib.hid (show cmpRows xs ys = 1 by
          rw [hE.out, List.drop_of_length_le (l := ys) (by omega), drop_cons xs j (by omega)]; rfl)
        have hmn : m ≤ j := by omega
        obtain ⟨b1, o1, x, rfl, hc1, hx, _, _⟩ := h.get hlt
        clear hl hl' h h' hjm hlm
        go_wp2_with fail
        go_ret
        exact ⟨ret_int HE.out.symm, rfl⟩
    · obtain rfl : j = n := by omega
      by_cases hlm : j < m
      · have HE := Lib.hid (show cmpRows xs ys = -1 by
          rw [hE.out, List.drop_of_length_le (l := xs) (by omega), drop_cons ys j (by omega)]; rfl)
        clear hl hl' h h'
        go_wp2_with fail
        go_ret
        exact ⟨ret_int HE.out.symm, rfl⟩
      · have HE := Lib.hid (show cmpRows xs ys = 0 by
          rw [hE.out, List.drop_of_length_le (l := xs) (by omega), List.drop_of_length_le (l := ys) (by omega)]; rfl)
        clear hl hl' h h'
        go_wp2_with fail
        go_ret
        exact ⟨ret_int HE.out.symm, rfl⟩

theorem cmpRows_any (a b : Option Addr) (n m cap cap' : Nat) (xs ys : List Int) (w : World) (h : Ints w a n xs) (h' : Ints w b m ys) :
    Calls Try.prog 189 #[.slice a n cap, .slice b m cap'] w fun e w' => e = .returned (.int .i64 (cmpRows xs ys)) ∧ w = w' := by
  go_enter Try.func189, Try.ntmps189
  go_wp2_with fail
  refine (compare_any _ _ _ _ _ _ _ _ _ h h').mono ?_
  rintro e w' ⟨rfl, rfl⟩
  go_wp2_with fail
  go_ret
  exact ⟨rfl, rfl⟩

set_option maxHeartbeats 800000 in
theorem ascending_any (a : Option Addr) (n cap : Nat) (xss : List (List Int)) (w : World) (h : Sl rI w a n xss) :
    Calls Try.prog 186 #[.slice a n cap] w fun e w' => e = .returned (.bool (ascB xss)) ∧ Drew w w' := by
  have hn := h.small
  have hl := h.len
  go_enter Try.func186, Try.ntmps186
  go_wp2
  go_loopw [3] (fun k wr => ∃ j : Nat, j ≤ n ∧ k = .int .i64 ((j : Int) + 1) ∧ Hid (ascB xss = ascB (xss.drop j)) ∧ Drew w wr) (fun k _ => n + 1 - (intOf k).toNat)
  case atStart => exact ⟨0, Nat.zero_le _, rfl, rfl, Drew.refl _⟩
  case round =>
    obtain ⟨j, hj, rfl, hE, hdr⟩ := hrel
    replace h := h.drew hdr
    by_cases hlt : j + 1 < n
    · obtain ⟨b1, o1, r1, m1, q1, x, rfl, hc1, hx, hi, _⟩ := h.row (show j < n by omega)
      obtain ⟨b2, o2, r2, m2, q2, y, hb2, hc2, hy, hi', _⟩ := h.row hlt
      simp at hb2
      obtain ⟨rfl, rfl⟩ := hb2
      have hcall := fun q => cmpRows_any r1 r2 m1 m2 q1 q2 x y (wr.drewN q) (hi.drewN q) (hi'.drewN q)
      obtain ⟨c, hc⟩ : ∃ c, c = cmpRows x y := ⟨_, rfl⟩
      rw [← hc] at hcall
      have HC := Lib.hid hcall
      have HA := Lib.hid (hE.out.trans (ascB_at hx.out hy.out))
      rw [← hc] at HA
      have e1 : ((j : Int) + 1 - 1) = (j : Int) := by omega
      have hk : ((j : Int) + 1) < (n : Int) := by omega
      have hc2' : wr.cell? ⟨b1, o1 + (j + 1), none⟩ = some (.slice r2 m2 q2) := hc2
      clear h hl hi hi' hcall hc hx hy hE
      by_cases h0 : c < 0
      · have HE := Lib.hid (show ascB xss = ascB (xss.drop (j + 1)) by rw [HA.out]; simp [h0])
        go_wp2_with fail
        go_quiet ((go_at_call 189; exact quiet_same (HC.out _)))
        go_wp2_with fail
        go_roundw
        case rel => exact ⟨j + 1, by omega, by go_num, HE.out, hdr.step _⟩
        case measure => simp [intOf]; omega
      · have HE := Lib.hid (show ascB xss = false by rw [HA.out]; simp [h0])
        go_wp2_with fail
        go_quiet ((go_at_call 189; exact quiet_same (HC.out _)))
        go_wp2_with fail
        go_ret
        exact ⟨ret_bool HE.out.symm, hdr.step _⟩
    · have HE := Lib.hid (hE.out.trans (ascB_end (by omega)))
      have hk : ¬ ((j : Int) + 1) < (n : Int) := by omega
      clear h hl hE
      go_wp2_with fail
      go_ret
      exact ⟨ret_bool HE.out.symm, hdr⟩

end Go.Proofs.Ytbkoddikfpkocaa

/- Plain: rows in order, each once. -/
namespace Go.Proofs.Ytbkoddikfpkocaa
open Go.RowKit
set_option linter.unusedVariables false
set_option linter.unusedSimpArgs false

/-- Strictly ascending. -/
def Asc (l : List (List Int)) : Prop := l.Pairwise (fun a b => cmpRows a b < 0)
theorem cmpRows_lt_iff {a b : List Int} : cmpRows a b < 0 ↔ cmpRows a b = -1 := by
  have := cmpRows_rng a b; omega
theorem cmpRows_gt_iff {a b : List Int} : 0 < cmpRows a b ↔ cmpRows b a < 0 := by
  rw [cmpRows_swap a b]; omega
theorem cmpRows_lt_trans {a b c : List Int} (h : cmpRows a b < 0) (k : cmpRows b c < 0) : cmpRows a c < 0 :=
  cmpRows_lt_iff.2 (cmpRows_trans a b c (cmpRows_lt_iff.1 h) (cmpRows_lt_iff.1 k))
theorem ascB_asc : ∀ {l : List (List Int)}, ascB l = true ↔ Asc l
  | [] => by simp [ascB, Asc]
  | [x] => by simp [ascB, Asc]
  | x :: y :: t => by
    have ih := @ascB_asc (y :: t)
    simp only [ascB, Bool.and_eq_true, decide_eq_true_eq, ih, Asc, List.pairwise_cons]
    constructor
    · rintro ⟨h, k⟩
      refine ⟨fun z hz => ?_, k⟩
      rcases List.mem_cons.1 hz with rfl | hz
      · exact h
      · exact cmpRows_lt_trans h (k.1 z hz)
    · rintro ⟨h, k⟩
      exact ⟨h y (List.mem_cons_self ..), k⟩
theorem Asc.uniq : ∀ {l m : List (List Int)}, Asc l → Asc m → (∀ x, x ∈ l ↔ x ∈ m) → l = m
  | [], [], _, _, _ => rfl
  | [], y :: m, _, _, h => by have := (h y).2 (List.mem_cons_self ..); cases this
  | x :: l, [], _, _, h => by have := (h x).1 (List.mem_cons_self ..); cases this
  | x :: l, y :: m, hl, hm, h => by
    have hl' := List.pairwise_cons.1 hl
    have hm' := List.pairwise_cons.1 hm
    have irr : ∀ z : List Int, ¬ cmpRows z z < 0 := fun z => by rw [cmpRows_self]; omega
    have e : x = y := by
      rcases List.mem_cons.1 ((h x).1 (List.mem_cons_self ..)) with hx | hx
      · exact hx
      · rcases List.mem_cons.1 ((h y).2 (List.mem_cons_self ..)) with hy | hy
        · exact hy.symm
        · exact absurd (cmpRows_lt_trans (hm'.1 x hx) (hl'.1 y hy)) (irr y)
    subst e
    rw [Asc.uniq hl'.2 hm'.2 fun z => ?_]
    constructor
    · intro hz
      rcases List.mem_cons.1 ((h z).1 (List.mem_cons_of_mem _ hz)) with rfl | hz'
      · exact absurd (hl'.1 z hz) (irr z)
      · exact hz'
    · intro hz
      rcases List.mem_cons.1 ((h z).2 (List.mem_cons_of_mem _ hz)) with rfl | hz'
      · exact absurd (hm'.1 z hz) (irr z)
      · exact hz'

/-- A row put among rows, in the reference's way: 'put' is whether it has been put. -/
def putL (r : List Int) : Bool → List (List Int) → List (List Int)
  | put, [] => if put then [] else [r]
  | put, x :: t => if decide (0 < cmpRows x r) && !(put || decide (cmpRows x r = 0)) then r :: x :: putL r true t else x :: putL r (put || decide (cmpRows x r = 0)) t
theorem putL_true (r : List Int) : ∀ l, putL r true l = l
  | [] => rfl
  | x :: t => by simp [putL, putL_true r t]
theorem putL_mem (r : List Int) : ∀ {l : List (List Int)} {z : List Int}, z ∈ putL r false l ↔ z = r ∨ z ∈ l
  | [], z => by simp [putL]
  | x :: t, z => by
    have ih := @putL_mem r t z
    unfold putL
    by_cases h0 : cmpRows x r = 0
    · have := (cmpRows_zero x r).1 h0
      subst this
      simp [h0, putL_true]
    · by_cases h1 : 0 < cmpRows x r
      · simp [h0, h1, putL_true]
      · simp only [h0, h1, decide_false, Bool.false_and, Bool.or_self, Bool.false_eq_true, if_false, List.mem_cons, ih]
        constructor
        · rintro (h | h | h)
          · exact .inr (.inl h)
          · exact .inl h
          · exact .inr (.inr h)
        · rintro (h | h | h)
          · exact .inr (.inl h)
          · exact .inl h
          · exact .inr (.inr h)
theorem putL_asc (r : List Int) : ∀ {l : List (List Int)}, Asc l → Asc (putL r false l)
  | [], _ => by simp [putL, Asc]
  | x :: t, h => by
    have h' := List.pairwise_cons.1 h
    unfold putL
    by_cases h0 : cmpRows x r = 0
    · simp [h0, putL_true]; exact h
    · by_cases h1 : 0 < cmpRows x r
      · have hr : cmpRows r x < 0 := cmpRows_gt_iff.1 h1
        simp only [h0, h1, decide_true, decide_false, Bool.or_self, Bool.not_false, Bool.and_self, if_true, putL_true]
        refine List.pairwise_cons.2 ⟨fun z hz => ?_, h⟩
        rcases List.mem_cons.1 hz with rfl | hz
        · exact hr
        · exact cmpRows_lt_trans hr (h'.1 z hz)
      · have hx : cmpRows x r < 0 := by omega
        simp only [h0, h1, decide_false, Bool.false_and, Bool.or_self, Bool.false_eq_true, if_false]
        refine List.pairwise_cons.2 ⟨fun z hz => ?_, putL_asc r h'.2⟩
        rcases (putL_mem r).1 hz with rfl | hz
        · exact hx
        · exact h'.1 z hz
theorem putL_len (r : List Int) : ∀ (b : Bool) (l : List (List Int)), (putL r b l).length ≤ l.length + 1
  | b, [] => by unfold putL; split <;> simp
  | b, x :: t => by
    unfold putL
    split
    · rw [putL_true]; simp
    · have := putL_len r (b || decide (cmpRows x r = 0)) t
      simp only [List.length_cons]; omega
/-- Rows in order, each once. -/
def canon (l : List (List Int)) : List (List Int) := l.foldl (fun acc r => putL r false acc) []
theorem canon_go : ∀ (l acc : List (List Int)), Asc acc → Asc (l.foldl (fun acc r => putL r false acc) acc) ∧ ∀ z, z ∈ l.foldl (fun acc r => putL r false acc) acc ↔ z ∈ acc ∨ z ∈ l
  | [], acc, h => ⟨h, fun z => by simp⟩
  | r :: t, acc, h => by
    obtain ⟨h1, h2⟩ := canon_go t (putL r false acc) (putL_asc r h)
    refine ⟨h1, fun z => ?_⟩
    rw [List.foldl_cons, h2 z, putL_mem]
    simp only [List.mem_cons]
    constructor
    · rintro ((h | h) | h)
      · exact .inr (.inl h)
      · exact .inl h
      · exact .inr (.inr h)
    · rintro (h | h | h)
      · exact .inl (.inr h)
      · exact .inl (.inl h)
      · exact .inr h
theorem canon_asc (l : List (List Int)) : Asc (canon l) := (canon_go l [] List.Pairwise.nil).1
theorem canon_mem {l : List (List Int)} {z : List Int} : z ∈ canon l ↔ z ∈ l := by
  have := (canon_go l [] List.Pairwise.nil).2 z
  simpa [canon] using this
theorem canon_uniq {l m : List (List Int)} (h : Asc m) (hm : ∀ z, z ∈ m ↔ z ∈ l) : m = canon l :=
  h.uniq (canon_asc l) fun z => by rw [hm, canon_mem]
theorem canon_snoc (l : List (List Int)) (r : List Int) : canon (l ++ [r]) = putL r false (canon l) := by simp [canon]
theorem canon_len (l : List (List Int)) : (canon l).length ≤ l.length := by
  have key : ∀ (l acc : List (List Int)), (l.foldl (fun acc r => putL r false acc) acc).length ≤ acc.length + l.length := by
    intro l
    induction l with
    | nil => intro acc; simp
    | cons r t ih =>
      intro acc
      have h1 := ih (putL r false acc)
      have h2 := putL_len r false acc
      simp only [List.foldl_cons, List.length_cons]
      omega
  simpa [canon] using key l []
theorem canon_id {l : List (List Int)} (h : Asc l) : canon l = l := (canon_uniq h fun _ => Iff.rfl).symm

/-- Neighbours that are equal, one of them alone: behind p. -/
def dedupFrom (p : List Int) : List (List Int) → List (List Int)
  | [] => []
  | x :: t => if x = p then dedupFrom p t else x :: dedupFrom x t
def dedup : List (List Int) → List (List Int)
  | [] => []
  | x :: t => x :: dedupFrom x t
theorem dedupFrom_spec : ∀ {p : List Int} {l : List (List Int)}, (p :: l).Pairwise (fun a b => ¬ cmpRows b a < 0) → Asc (p :: dedupFrom p l) ∧ ∀ z, z ∈ p :: dedupFrom p l ↔ z ∈ p :: l
  | p, [], _ => ⟨List.pairwise_cons.2 ⟨fun z hz => by simp [dedupFrom] at hz, List.Pairwise.nil⟩, fun z => Iff.rfl⟩
  | p, x :: t, h => by
    have h1 := List.pairwise_cons.1 h
    have h2 := List.pairwise_cons.1 h1.2
    unfold dedupFrom
    by_cases e : x = p
    · subst e
      rw [if_pos rfl]
      obtain ⟨a, b⟩ := @dedupFrom_spec x t h1.2
      refine ⟨a, fun z => ?_⟩
      rw [b z]; simp
    · rw [if_neg e]
      obtain ⟨a, b⟩ := @dedupFrom_spec x t h1.2
      have hpx : cmpRows p x < 0 := by
        have h3 := h1.1 x (List.mem_cons_self ..)
        have h4 := cmpRows_rng p x
        have h5 := cmpRows_swap p x
        have h6 : cmpRows p x ≠ 0 := fun h => e ((cmpRows_zero p x).1 h).symm
        omega
      have a' := List.pairwise_cons.1 a
      refine ⟨List.pairwise_cons.2 ⟨fun z hz => ?_, a⟩, fun z => ?_⟩
      · rcases List.mem_cons.1 hz with rfl | hz
        · exact hpx
        · exact cmpRows_lt_trans hpx (a'.1 z hz)
      · rw [List.mem_cons, b z]; exact (List.mem_cons).symm
theorem dedup_canon {l m : List (List Int)} (h : l.Pairwise (fun a b => ¬ cmpRows b a < 0)) (hm : ∀ z, z ∈ l ↔ z ∈ m) : dedup l = canon m := by
  cases l with
  | nil => exact canon_uniq List.Pairwise.nil hm
  | cons x t =>
    obtain ⟨a, b⟩ := dedupFrom_spec h
    exact canon_uniq a fun z => (b z).trans (hm z)
/-- How often a row stands among rows. -/
def cntRow (r : List Int) (l : List (List Int)) : Nat := (l.filter (fun x => decide (x = r))).length

end Go.Proofs.Ytbkoddikfpkocaa

/- Contracts: copies of rows and tables. -/
namespace Go.Proofs.Ytbkoddikfpkocaa
open Go.RowKit Go.Sort
set_option linter.unusedVariables false
set_option linter.unusedSimpArgs false
set_option synthInstance.maxSize 2000
set_option synthInstance.maxHeartbeats 400000

theorem info_zero {e : TypeId} {z : Value} {size bytes : Nat} (h : (Try.prog.info? e).map (fun i => (i.zero, i.size, i.bytes)) = some (some z, size, bytes)) : ∃ i, Try.prog.info? e = some i ∧ i.zero = some z ∧ i.size = size ∧ i.bytes = bytes := info_parts h

/-- 'append([]int{}, xs...)', xs nil or not. -/
theorem wpList_copyI {W : World} {ops : Array Oper} {rest : List Oper} {o : Oper} {a : Act} {Q : Exit → Act → World → Prop}
    (s x : Operand) (g n c : Nat) (ad : Option Addr) (xs : List Int) (hg : W.heap.size = g) (hi : Ints (W.alloc (.cells #[] 3)) ad n xs) (hn : n ≤ 1000000000000)
    (hgd : o.guard = none) (ho : o.op = .call { callee := .builtin .append, args := #[s, x], argTypes := #[24, 24] })
    (hs : a.eval s = .slice (some ⟨g, 0, none⟩) 0 0) (hx : a.eval x = .slice ad n c)
    (h : ∀ v' w', OwnInts W.heap.size w' v' n xs → Below W.heap.size W w' → W.heap.size < w'.heap.size → wpList Try.prog ops Q rest (a.put o.dst v') w') :
    wpList Try.prog ops Q (o :: rest) a (W.alloc (.cells #[] 3)) := by
  subst hg
  obtain ⟨i, hi0, hz0, hz1, hz2⟩ := info_parts infoInt
  have hown := own_empty (Nat.le_refl W.heap.size)
  have hbl : Below W.heap.size W (W.alloc (.cells #[] 3)) := (Below.refl _ _).alloc (Nat.le_refl _) _
  cases ad with
  | none =>
    have hn0 : n = 0 := by
      rcases Nat.eq_zero_or_pos n with h0 | h0
      · exact h0
      · obtain ⟨b, off, hb, _⟩ := hi.cell 0 h0; simp at hb
    subst hn0
    have hx0 : xs = [] := List.eq_nil_of_length_eq_zero hi.len
    subst hx0
    refine wpList_plain hgd fun K hK => ?_
    have hr : (Builtin.append_ #[24, 24] o.type #[.slice (some ⟨W.heap.size, 0, none⟩) 0 0, .slice none 0 c]).run Try.prog (W.alloc (.cells #[] 3)) = .ok (.slice (some ⟨W.heap.size, 0, none⟩) 0 0) (W.alloc (.cells #[] 3)) := run_append_room_src (P := Try.prog) (W.alloc (.cells #[] 3)) 24 24 o.type 3 i Try.underlying24 hi0 W.heap.size 0 0 0 (.slice none 0 c) 0 [] (Src.ofNil _ Try.underlying24 c) (by omega) (by simp) (by simp)
    unfold Oper.wp execOp
    simp only [ho, resolve, invoke, builtin, Sem.run_bind, Sem.run_pure, Result.andThen_ok, List.map_toArray, List.map_cons, List.map_nil, hs, hx, hr]
    exact hK _ _ (h _ _ hown hbl (by simp))
  | some ad =>
    have hnews : ∀ j u, (xs.map (Value.int .i64))[j]? = some u → (W.alloc (.cells #[] 3)).cell? (ad.add j) = some u := by
      intro j u hu
      rw [List.getElem?_map] at hu
      have hj : j < n := by
        rw [← hi.len]
        rcases Nat.lt_or_ge j xs.length with h1 | h1
        · exact h1
        · rw [List.getElem?_eq_none h1] at hu; simp at hu
      obtain ⟨b, off, hb, hc⟩ := hi.cell j hj
      simp at hb
      subst hb
      rw [List.getD_eq_getElem?_getD] at hc
      rw [List.getElem?_eq_getElem (by rw [hi.len]; exact hj)] at hu hc
      simp at hu
      subst hu
      rw [Addr.add_lit]
      simpa using hc
    refine wpList_append_own _ hgd s x 24 ho W.heap.size 3 i (.int .i64 0) 1 8 Try.underlying24 hi0 hz0 hz1 hz2 rfl (by decide) _ 0 [] hs (by simpa using hown.row) ad n c (xs.map (Value.int .i64)) hx (by simp [hi.len]) hnews (by intro z hz; simp at hz; obtain ⟨y, _, rfl⟩ := hz; rfl) (by unfold maxLen; omega) (by omega) (by simp) ?_
    intro v' w' h1 h2 _
    refine h v' w' ⟨hi.len, by simpa using h1, hi.rng⟩ (hbl.grown h2 (by simp) (fun k hk => by simp [Value.ownBlock] at hk; omega)) ?_
    have := h2.size; simp at this; omega

theorem copyInts_any (v : Value) (xs : List Int) (w : World) (h : rI.rep w [v] xs) (hn : xs.length ≤ 100000000) :
    Calls Try.prog 165 #[v] w fun e w' => ∃ u, e = .returned u ∧ Own oI w.heap.size w'.heap.size w' [u] xs ∧ Below w.heap.size w w' := by
  obtain ⟨a, cap, rfl, _, _, hi⟩ := rI_open h
  have hi2 := hi.below ((Below.refl _ _).alloc (Nat.le_refl _) (.cells #[] 3))
  clear h
  go_enter Try.func165, Try.ntmps165
  go_wp2_with ((at_builtin; refine wpList_copyI _ _ _ _ _ _ xs rfl hi2 (by omega) rfl rfl rfl rfl ?_; intro v' w1 hown hb hsz))
  obtain ⟨a', cap', rfl, _⟩ := own_form hown.row
  go_wp2_with fail
  go_ret
  exact ⟨_, rfl, hown.own, hb⟩

theorem infoI : (Try.prog.info? 24).map (fun i => (i.zero, i.size, i.bytes)) = some (some (.slice none 0 0), 1, 24) := by kernel_rfl

set_option maxHeartbeats 1000000 in
theorem copyRows_any (v : Value) (xss : List (List Int)) (w : World) (h : rII.rep w [v] xss) (hn : bulk_II xss ≤ 100000000) :
    Calls Try.prog 187 #[v] w fun e w' => ∃ u, e = .returned u ∧ Own oII w.heap.size w'.heap.size w' [u] xss ∧ Below w.heap.size w w' := by
  obtain ⟨a, cap, rfl, _, _, t0⟩ := rS_open h
  clear h
  obtain ⟨n, hl⟩ : ∃ n, xss.length = n := ⟨_, rfl⟩
  rw [hl] at t0 ⊢
  have hn1 : n ≤ 100000000 := by unfold bulk_II at hn; omega
  have hrows : ∀ (j : Nat) (r : List Int), xss[j]? = some r → r.length ≤ 100000000 := fun j r hr => by
    have h9 := sumBy_mem bulk_I hr; unfold bulk_II at hn; unfold bulk_I at h9 hn; omega
  have HR := Lib.hid hrows
  clear hn hrows
  have hb0 : Below w.heap.size w w := Below.refl _ _
  go_enter Try.func187, Try.ntmps187
  obtain ⟨w1, hw1⟩ : ∃ W, W = w.alloc (.cells #[] 24) := ⟨_, rfl⟩
  have z1 : Below w.heap.size w w1 := by rw [hw1]; exact (Below.refl _ _).alloc (Nat.le_refl _) _
  have s1 : w1.heap.size = w.heap.size + 1 := by rw [hw1]; simp
  have hb1 := on hb0 z1
  have ho : ∀ S, Acc 24 oI w.heap.size S w1.heap.size w1 (.slice (some ⟨w.heap.size, 0, none⟩) 0 0) [] := fun S => by rw [hw1]; exact Acc.empty (by omega) (by first | (simp; done) | (simp; omega))
  go_wp2_with fail
  rw [← hw1]
  clear hw1
  go_loopw [3, 9] (fun v k wr => ∃ j : Nat, j ≤ n ∧ k = .int .i64 j ∧ Acc 24 oI w.heap.size w1.heap.size wr.heap.size wr v (xss.take j) ∧ Turn w.heap.size (w.heap.size + 1) w1 wr) (fun _ k _ => n - (intOf k).toNat)
  case atStart => exact ⟨0, Nat.zero_le _, rfl, by rw [List.take_zero]; exact (ho _).wide (Nat.le_refl _) (by omega), turn_refl _ _ _⟩
  case round =>
    obtain ⟨j, hj, rfl, hacc, hdr⟩ := hrel
    have hlc := hdr
    have hE0 : w1.heap.size = w.heap.size + 1 := by omega
    clear ho
    have s2 := hdr.size
    have hb2 := hb1.trans ((hdr.below (by omega)).mono (by omega))
    have hlen : (xss.take j).length ≤ j := List.length_take_le _ _
    by_cases hlt : j < n
    · obtain ⟨b0, o0, r1, m1, q1, x, rfl, hc, hx, hi, hq1, hq2⟩ := t0.row hlt
      have hclt : b0 < w.heap.size := cell_lt hc
      have c0 : wr.cell? ⟨b0, o0 + j, none⟩ = some (.slice r1 m1 q1) := (hb2.cell (p := ⟨b0, o0 + j, none⟩) hclt).trans hc
      have hrep : rI.rep w [.slice r1 m1 q1] x := rI_mk hi hq1 hq2
      have HT := Lib.hid (take_snoc' xss j x hx.out)
      have hxl := HR.out j x hx.out
      clear hc hx hi t0 hl hE0
      go_wp2_with fail
      refine (copyInts_any _ x _ (rI.mono hrep hb2) hxl).mono ?_
      rintro e w8 ⟨u, rfl, oy, z8⟩
      obtain ⟨ab, nb, cb, rfl⟩ := oI_form1 oy
      have s3 := z8.size
      have hb3 := on hb2 z8
      replace hlc := hlc.trans (turn_below z8 (Nat.le_refl _))
      replace hacc := hacc.below z8 (by omega)
      replace c0 := (z8.cell (p := ⟨b0, o0 + j, none⟩) (by simp only []; omega)).trans c0
      have hone : ∀ z ∈ [Value.slice ab nb cb], z.oneCell' = true := by intro z hz; simp at hz; subst hz; rfl
      go_wp2_with ((at_builtin; refine wpList_acc Try.underlying32 infoI rfl (by decide) (by decide) rfl _ _ _ _ [.slice ab nb cb] x hacc oy hone (by omega) (by omega) (by omega) (by omega) hlc rfl (by omega) (by omega) rfl rfl rfl rfl rfl ?_; intro v' w1 hacc' ht' hsz'))
      rw [← HT.out] at hacc'
      go_roundw
      case rel => exact ⟨j + 1, by omega, by go_num, hacc', ht'⟩
      case measure => simp [intOf]; omega
    · obtain rfl : j = n := by omega
      obtain ⟨a', n', cap2, rfl⟩ := hacc.form3
      rw [List.take_of_length_le (by omega)] at hacc
      have HO := Lib.hid (hacc.own (B := w.heap.size) (hi' := wr.heap.size) (by omega) (by omega) (by omega))
      clear hacc t0 hl
      go_wp2_with fail
      go_ret
      exact ⟨_, rfl, HO.out, hb2⟩

set_option maxHeartbeats 1000000 in
theorem copyTable_any (cs : List Value) (x : DT) (w : World) (h : rT.rep w cs x) (hn : bulk_T x ≤ 100000000) :
    Calls Try.prog 197 #[.agg cs.toArray] w fun e w' => ∃ ds, e = .returned (.agg ds.toArray) ∧ Own oT w.heap.size w'.heap.size w' ds x ∧ Below w.heap.size w w' := by
  obtain ⟨ub, un, uc, rfl, hs, hi, g1⟩ := rT_open h
  clear h
  obtain ⟨s, i, rows⟩ := x
  simp only at hs hi g1
  have hn2 : bulk_II rows ≤ 100000000 := by unfold bulk_T at hn; simp only at hn; omega
  clear hn
  have hb0 : Below w.heap.size w w := Below.refl _ _
  go_enter Try.func197, Try.ntmps197
  obtain ⟨w1, hw1⟩ : ∃ W, W = w.alloc (.cells #[.string s, .int .i64 i, .slice ub un uc] 34) := ⟨_, rfl⟩
  have z1 : Below w.heap.size w w1 := by rw [hw1]; exact (Below.refl _ _).alloc (Nat.le_refl _) _
  have s1 : w1.heap.size = w.heap.size + 1 := by rw [hw1]; simp
  have hb1 := on hb0 z1
  have b_0 : w1.cell? ⟨w.heap.size, 0, none⟩ = some (.string s) := by rw [hw1]; exact box_cell (Below.refl _ _) rfl
  have b_1 : w1.cell? ⟨w.heap.size, 1, none⟩ = some (.int .i64 i) := by rw [hw1]; exact box_cell (Below.refl _ _) rfl
  have b_2 : w1.cell? ⟨w.heap.size, 2, none⟩ = some (.slice ub un uc) := by rw [hw1]; exact box_cell (Below.refl _ _) rfl
  have b_f0 : w1.frozen? ⟨w.heap.size, 0, none⟩ = false := by rw [hw1]; exact box_frozen (Below.refl _ _)
  have b_f1 : w1.frozen? ⟨w.heap.size, 1, none⟩ = false := by rw [hw1]; exact box_frozen (Below.refl _ _)
  have b_f2 : w1.frozen? ⟨w.heap.size, 2, none⟩ = false := by rw [hw1]; exact box_frozen (Below.refl _ _)
  have raw1_b_0 := b_0
  have raw1_b_1 := b_1
  have raw1_b_2 := b_2
  rw [hw1] at raw1_b_0 raw1_b_1 raw1_b_2
  obtain ⟨w2, hw2⟩ : ∃ W, W = w1.alloc (.cells #[.string ⟨#[]⟩, .int .i64 0, .slice none 0 0] 34) := ⟨_, rfl⟩
  have z2 : Below w1.heap.size w1 w2 := by rw [hw2]; exact (Below.refl _ _).alloc (Nat.le_refl _) _
  have s2 : w2.heap.size = w1.heap.size + 1 := by rw [hw2]; simp
  have hb2 := on hb1 z2
  replace b_0 := (z2.cell (p := ⟨w.heap.size, 0, none⟩) (by simp only []; omega)).trans b_0
  replace b_1 := (z2.cell (p := ⟨w.heap.size, 1, none⟩) (by simp only []; omega)).trans b_1
  replace b_2 := (z2.cell (p := ⟨w.heap.size, 2, none⟩) (by simp only []; omega)).trans b_2
  replace b_f0 := (z2.frozen (p := ⟨w.heap.size, 0, none⟩) (by simp only []; omega)).trans b_f0
  replace b_f1 := (z2.frozen (p := ⟨w.heap.size, 1, none⟩) (by simp only []; omega)).trans b_f1
  replace b_f2 := (z2.frozen (p := ⟨w.heap.size, 2, none⟩) (by simp only []; omega)).trans b_f2
  have e2 : w1.heap.size = w.heap.size + 1 := by omega
  have r_0 : w2.cell? ⟨w1.heap.size, 0, none⟩ = some (.string ⟨#[]⟩) := by rw [hw2]; exact box_cell (Below.refl _ _) rfl
  have r_1 : w2.cell? ⟨w1.heap.size, 1, none⟩ = some (.int .i64 0) := by rw [hw2]; exact box_cell (Below.refl _ _) rfl
  have r_2 : w2.cell? ⟨w1.heap.size, 2, none⟩ = some (.slice none 0 0) := by rw [hw2]; exact box_cell (Below.refl _ _) rfl
  rw [e2] at r_0 r_1 r_2
  have r_f0 : w2.frozen? ⟨w1.heap.size, 0, none⟩ = false := by rw [hw2]; exact box_frozen (Below.refl _ _)
  have r_f1 : w2.frozen? ⟨w1.heap.size, 1, none⟩ = false := by rw [hw2]; exact box_frozen (Below.refl _ _)
  have r_f2 : w2.frozen? ⟨w1.heap.size, 2, none⟩ = false := by rw [hw2]; exact box_frozen (Below.refl _ _)
  rw [e2] at r_f0 r_f1 r_f2
  have raw2_b_0 := b_0
  have raw2_b_1 := b_1
  have raw2_b_2 := b_2
  have raw2_r_0 := r_0
  have raw2_r_1 := r_1
  have raw2_r_2 := r_2
  rw [hw2, hw1] at raw2_b_0 raw2_b_1 raw2_b_2 raw2_r_0 raw2_r_1 raw2_r_2
  go_wp2_with fail
  rw [← hw1]
  rw [← hw2]
  clear hw2 hw1
  clear raw1_b_0 raw1_b_1 raw1_b_2 raw2_b_0 raw2_b_1 raw2_b_2 raw2_r_0 raw2_r_1 raw2_r_2
  refine (copyRows_any _ rows _ (rII.mono g1 hb2) hn2).mono ?_
  rintro e w9 ⟨u, rfl, ho, z9⟩
  obtain ⟨ab, nb, cb, rfl⟩ := oII_form1 ho
  have s3 := z9.size
  have hb3 := on hb2 z9
  replace b_0 := (z9.cell (p := ⟨w.heap.size, 0, none⟩) (by simp only []; omega)).trans b_0
  replace b_1 := (z9.cell (p := ⟨w.heap.size, 1, none⟩) (by simp only []; omega)).trans b_1
  replace b_2 := (z9.cell (p := ⟨w.heap.size, 2, none⟩) (by simp only []; omega)).trans b_2
  replace b_f0 := (z9.frozen (p := ⟨w.heap.size, 0, none⟩) (by simp only []; omega)).trans b_f0
  replace b_f1 := (z9.frozen (p := ⟨w.heap.size, 1, none⟩) (by simp only []; omega)).trans b_f1
  replace b_f2 := (z9.frozen (p := ⟨w.heap.size, 2, none⟩) (by simp only []; omega)).trans b_f2
  replace r_0 := (z9.cell (p := ⟨w.heap.size + 1, 0, none⟩) (by simp only []; omega)).trans r_0
  replace r_1 := (z9.cell (p := ⟨w.heap.size + 1, 1, none⟩) (by simp only []; omega)).trans r_1
  replace r_2 := (z9.cell (p := ⟨w.heap.size + 1, 2, none⟩) (by simp only []; omega)).trans r_2
  replace r_f0 := (z9.frozen (p := ⟨w.heap.size + 1, 0, none⟩) (by simp only []; omega)).trans r_f0
  replace r_f1 := (z9.frozen (p := ⟨w.heap.size + 1, 1, none⟩) (by simp only []; omega)).trans r_f1
  replace r_f2 := (z9.frozen (p := ⟨w.heap.size + 1, 2, none⟩) (by simp only []; omega)).trans r_f2
  go_wp2_with fail
  refine bodyPost_ret (v := .agg #[.string s, .int .i64 i, .slice ab nb cb]) (by simp [results, Try.results197, go_sem, b_0, b_1, b_2, r_0, r_1, r_2, b_f0, b_f1, b_f2, r_f0, r_f1, r_f2]) rfl ⟨_, rfl, ?_, ?_⟩
  · refine oT_mk (x := (s, i, rows)) hs hi (l2 := w2.heap.size) (m2 := w9.heap.size) ?_ (by omega) (by simp [World.setCell])
    repeat (refine Own.setOut ?_ rfl (by simp only []; omega))
    exact ho
  · repeat (refine Below.setCell ?_ (by simp only []; omega) _)
    exact hb3

end Go.Proofs.Ytbkoddikfpkocaa

/- Kind Gl: shape, size, copy, comparison. Written by a program. -/
namespace Go.Proofs.Ytbkoddikfpkocaa
open Go.RowKit
set_option linter.unusedVariables false
set_option linter.unusedSimpArgs false
set_option synthInstance.maxSize 2000
set_option synthInstance.maxHeartbeats 400000

def rGl : RS (List DGs) := R.slice rGs
def oGl : OS (List DGs) := O.slice 144 oGs
theorem reads_Gl : Reads oGl rGl := Reads.slice _ reads_Gs
theorem rGl_form {w : World} {cs : List Value} {xs : List DGs} (h : rGl.rep w cs xs) : ∃ b n c, cs = [.slice b n c] := rS_form h
theorem oGl_form1 {lo hi : Nat} {w : World} {v : Value} {xs : List DGs} (h : Own oGl lo hi w [v] xs) : ∃ b n c, v = .slice b n c := oS_form1 reads_Gs h
def bulk_Gl (xs : List DGs) : Nat := xs.length + sumBy bulk_Gs xs

set_option maxHeartbeats 1000000 in
theorem sz_Gl (v : Value) (xs : List DGs) (left : Int) (w : World) (h : rGl.rep w [v] xs) (h0 : 0 ≤ left) (h1 : left ≤ 1048576) :
    Calls Try.prog 160 #[v, .int .i64 left] w fun e w' => e = .returned (.int .i64 (szR left (bulk_Gl xs))) ∧ Below w.heap.size w w' := by
  obtain ⟨a, cap, rfl, hn1, hn2, hi⟩ := rS_open h
  clear h
  unfold bulk_Gl
  have hsm := hi.small
  obtain ⟨n, hlen⟩ : ∃ n, xs.length = n := ⟨_, rfl⟩
  rw [hlen] at hi hsm hn1 ⊢
  by_cases hl : (n : Int) ≤ left
  case neg =>
    have HE := Lib.hid (szR_no (sumBy bulk_Gs xs) hl)
    clear hi
    go_enter Try.func160, Try.ntmps160
    go_wp2_with fail
    go_ret
    exact ⟨ret_int HE.out.symm, Below.refl _ _⟩
  have HE := Lib.hid (szR_add (b := sumBy bulk_Gs xs) hl)
  go_enter Try.func160, Try.ntmps160
  go_wp2_with fail
  go_loopw [1, 5] (fun l i wr => ∃ (j : Nat) (q : Int), j ≤ n ∧ i = .int .i64 j ∧ l = .int .i64 q ∧ 0 ≤ q ∧ q ≤ 1048576 ∧ Hid (szR left (n + sumBy bulk_Gs xs) = szR q (sumBy bulk_Gs (xs.drop j))) ∧ Below w.heap.size w wr) (fun _ i _ => n - (intOf i).toNat)
  case atStart => exact ⟨0, left - n, Nat.zero_le _, rfl, rfl, by omega, by omega, HE.out, Below.refl _ _⟩
  case round =>
    obtain ⟨j, q, hj, rfl, rfl, q0, q1, hE, hb⟩ := hrel
    clear HE
    by_cases hlt : j < n
    · obtain ⟨b, off, cs, x, rfl, hx, hr, hc⟩ := (hi.below hb).at hlt
      obtain ⟨ub0, un0, uc0, ub1, un1, uc1, ub2, un2, uc2, rfl⟩ := rGs_form hr
      have c0 : wr.cell? ⟨b, off + j * 3, none⟩ = some (.slice ub0 un0 uc0) := by have h9 := hc 0 _ rfl; rw [← Nat.add_assoc] at h9; exact h9
      have c1 : wr.cell? ⟨b, off + j * 3 + 1, none⟩ = some (.slice ub1 un1 uc1) := by have h9 := hc 1 _ rfl; rw [← Nat.add_assoc] at h9; exact h9
      have c2 : wr.cell? ⟨b, off + j * 3 + 2, none⟩ = some (.slice ub2 un2 uc2) := by have h9 := hc 2 _ rfl; rw [← Nat.add_assoc] at h9; exact h9
      clear hc
      have HS := hE.out.trans (congrArg (szR q) (sumBy_drop bulk_Gs hx.out))
      have hcs := szR_cases q (bulk_Gs x)
      have hcall := sz_Gs _ x q wr hr q0 q1
      obtain ⟨p, hp⟩ : ∃ p, p = szR q (bulk_Gs x) := ⟨_, rfl⟩
      rw [← hp] at hcall hcs
      have HC := Lib.hid hcall
      clear hcall hi
      rcases hcs with ⟨rfl, l⟩ | ⟨hp2, l⟩
      · have HE := Lib.hid (HS.trans (szR_no _ l))
        clear hp HS l hE
        go_wp2_with fail
        refine HC.out.mono ?_
        rintro e w1 ⟨rfl, z1⟩
        go_wp2_with fail
        go_ret
        exact ⟨ret_int HE.out.symm, on hb z1⟩
      · have HE := Lib.hid (HS.trans ((szR_add l).trans (by rw [← hp2])) : szR left (n + sumBy bulk_Gs xs) = szR p (sumBy bulk_Gs (xs.drop (j + 1))))
        have p0 : 0 ≤ p := by omega
        have p1 : p ≤ 1048576 := by omega
        clear hp hp2 HS l hE
        go_wp2_with fail
        refine HC.out.mono ?_
        rintro e w1 ⟨rfl, z1⟩
        go_wp2_with fail
        go_roundw
        case rel => exact ⟨j + 1, p, by omega, by go_num, rfl, p0, p1, HE, on hb z1⟩
        case measure => simp [intOf]; omega
    · have HE := Lib.hid (hE.out.trans (by rw [sumBy_end _ (by omega)]; unfold szR; rw [if_pos (by omega)]; simp) : szR left (n + sumBy bulk_Gs xs) = q)
      clear hi hE
      go_wp2_with fail
      go_ret
      exact ⟨ret_int HE.out.symm, hb⟩

set_option maxHeartbeats 2000000 in
set_option maxRecDepth 100000 in
theorem to_Gl (v : Value) (xs : List DGs) (w : World) (h : rGl.rep w [v] xs) (hn : bulk_Gl xs ≤ 1048576) :
    Calls Try.prog 163 #[v] w fun e w' => ∃ u, e = .returned u ∧ Own oGl w.heap.size w'.heap.size w' [u] xs ∧ Below w.heap.size w w' := by
  obtain ⟨a, cap, rfl, hn1, hn2, hi⟩ := rS_open h
  clear h
  unfold bulk_Gl at hn
  obtain ⟨n, hlen⟩ : ∃ n, xs.length = n := ⟨_, rfl⟩
  rw [hlen] at hi hn hn1 ⊢
  have hbk : ∀ (j : Nat) x, xs[j]? = some x → bulk_Gs x ≤ 1048576 := fun j x hx => by have := sumBy_mem bulk_Gs hx; omega
  have hn3 : n ≤ 100000000 := by omega
  clear hn
  go_enter Try.func163, Try.ntmps163
  go_wp2_with (at_make; refine wpList_mkS (size := 3) (bytes := 72) (z := .agg #[.slice none 0 0, .slice none 0 0, .slice none 0 0]) rfl rfl rfl (by decide) (by decide) oGs xs _ _ n hn3 rfl rfl rfl rfl ?_; intro w1 hp1 hb1 hz1)
  go_wp2_with fail
  go_loopw [4] (fun k wr => ∃ j : Nat, j ≤ n ∧ k = .int .i64 j ∧ Part 144 oGs [.slice none 0 0, .slice none 0 0, .slice none 0 0] w.heap.size wr w.heap.size n j xs ∧ Below w.heap.size w wr) (fun k _ => n - (intOf k).toNat)
  case atStart => exact ⟨0, Nat.zero_le _, rfl, hp1, hb1⟩
  case round =>
    obtain ⟨j, hj, rfl, hp, hb⟩ := hrel
    clear hp1 hb1
    by_cases hlt : j < n
    · obtain ⟨b, off, cs, x, rfl, hx, hr, hc⟩ := (hi.below hb).at hlt
      obtain ⟨ub0, un0, uc0, ub1, un1, uc1, ub2, un2, uc2, rfl⟩ := rGs_form hr
      have c0 : wr.cell? ⟨b, off + j * 3, none⟩ = some (.slice ub0 un0 uc0) := by have h9 := hc 0 _ rfl; rw [← Nat.add_assoc] at h9; exact h9
      have c1 : wr.cell? ⟨b, off + j * 3 + 1, none⟩ = some (.slice ub1 un1 uc1) := by have h9 := hc 1 _ rfl; rw [← Nat.add_assoc] at h9; exact h9
      have c2 : wr.cell? ⟨b, off + j * 3 + 2, none⟩ = some (.slice ub2 un2 uc2) := by have h9 := hc 2 _ rfl; rw [← Nat.add_assoc] at h9; exact h9
      clear hc
      have hg : w.heap.size < wr.heap.size := by obtain ⟨_, _, _, _, _, _, _, h9⟩ := hp; exact h9
      have HC := Lib.hid (to_Gs _ x wr hr (hbk j x hx.out))
      have HI := Lib.hid hi
      go_wp2_with fail
      refine HC.out.mono ?_
      rintro e w1 ⟨d, rfl, ho, z1⟩
      obtain ⟨db0, dn0, dc0, db1, dn1, dc1, db2, dn2, dc2, rfl⟩ := oGs_form ho
      have s1 := z1.size
      have hp1 : Part 144 oGs [.slice none 0 0, .slice none 0 0, .slice none 0 0] w.heap.size w1 w.heap.size n j xs := hp.below z1 (Nat.le_refl _)
      obtain ⟨⟨e0, f0⟩, g0⟩ := hp1.cell rfl hlt (by omega) 0 (by decide)
      replace f0 : w1.cell? ⟨w.heap.size, j * 3, none⟩ = some e0 := f0
      replace g0 : w1.frozen? ⟨w.heap.size, j * 3, none⟩ = false := g0
      obtain ⟨⟨e1, f1⟩, g1⟩ := hp1.cell rfl hlt (by omega) 1 (by decide)
      replace f1 : w1.cell? ⟨w.heap.size, j * 3 + 1, none⟩ = some e1 := f1
      replace g1 : w1.frozen? ⟨w.heap.size, j * 3 + 1, none⟩ = false := g1
      obtain ⟨⟨e2, f2⟩, g2⟩ := hp1.cell rfl hlt (by omega) 2 (by decide)
      replace f2 : w1.cell? ⟨w.heap.size, j * 3 + 2, none⟩ = some e2 := f2
      replace g2 : w1.frozen? ⟨w.heap.size, j * 3 + 2, none⟩ = false := g2
      have HP := Lib.hid (hp1.step (cs := [.slice db0 dn0 dc0, .slice db1 dn1 dc1, .slice db2 dn2 dc2]) rfl hlt hx.out ho hg ⟨wr, hp, Nat.le_refl _, fun p hp => z1.block p hp⟩ (Nat.le_refl _) (by omega))
      have hb1 := on hb z1
      clear ho hp hp1
      go_wp2_with fail
      go_roundw
      case rel => exact ⟨j + 1, by omega, by go_num, HP.out, (((hb1.setCell (Nat.le_refl _) _).setCell (Nat.le_refl _) _).setCell (Nat.le_refl _) _)⟩
      case measure => simp [intOf]; omega
    · have hjn : j = n := by omega
      subst hjn
      have HO := Lib.hid (hp.done hlen (by omega))
      clear hp hi
      go_wp2_with fail
      go_ret
      exact ⟨_, rfl, HO.out, hb⟩

set_option maxHeartbeats 2000000 in
theorem eq_Gl (u v : Value) (xs ys : List DGs) (w : World) (h : rGl.rep w [u] xs) (h' : rGl.rep w [v] ys) :
    Calls Try.prog 157 #[u, v] w fun e w' => e = .returned (.bool (decide (xs = ys))) ∧ Below w.heap.size w w' := by
  obtain ⟨a, cap, rfl, _, _, hi⟩ := rS_open h
  obtain ⟨a', cap', rfl, _, _, hi'⟩ := rS_open h'
  clear h h'
  have hn := hi.small
  have hn' := hi'.small
  obtain ⟨n, hl⟩ : ∃ n, xs.length = n := ⟨_, rfl⟩
  obtain ⟨m, hl'⟩ : ∃ n, ys.length = n := ⟨_, rfl⟩
  rw [hl] at hi hn ⊢
  rw [hl'] at hi' hn' ⊢
  by_cases hnm : n = m
  case neg =>
    have HE := Lib.hid (show decide (xs = ys) = false by simp only [decide_eq_false_iff_not]; intro e; subst e; omega)
    have hne : ((n : Int) != (m : Int)) = true := by rw [bne_iff_ne]; omega
    clear hl hl' hi hi'
    go_enter Try.func157, Try.ntmps157
    go_wp2_with fail
    go_ret
    exact ⟨ret_bool HE.out.symm, Below.refl _ _⟩
  subst hnm
  go_enter Try.func157, Try.ntmps157
  go_wp2_with fail
  go_loopw [5] (fun k wr => ∃ j : Nat, j ≤ n ∧ k = .int .i64 j ∧ Hid (xs.take j = ys.take j) ∧ Below w.heap.size w wr) (fun k _ => n - (intOf k).toNat)
  case atStart => exact ⟨0, Nat.zero_le _, rfl, rfl, Below.refl _ _⟩
  case round =>
    obtain ⟨j, hj, rfl, hE, hb⟩ := hrel
    by_cases hlt : j < n
    · obtain ⟨b, off, cs, x, rfl, hx, hr, hc⟩ := (hi.below hb).at hlt
      obtain ⟨b', off', ds, y, rfl, hy, hr', hd⟩ := (hi'.below hb).at hlt
      obtain ⟨ub0, un0, uc0, ub1, un1, uc1, ub2, un2, uc2, rfl⟩ := rGs_form hr
      obtain ⟨vb0, vn0, vc0, vb1, vn1, vc1, vb2, vn2, vc2, rfl⟩ := rGs_form hr'
      have c0 : wr.cell? ⟨b, off + j * 3, none⟩ = some (.slice ub0 un0 uc0) := by have h9 := hc 0 _ rfl; rw [← Nat.add_assoc] at h9; exact h9
      have c1 : wr.cell? ⟨b, off + j * 3 + 1, none⟩ = some (.slice ub1 un1 uc1) := by have h9 := hc 1 _ rfl; rw [← Nat.add_assoc] at h9; exact h9
      have c2 : wr.cell? ⟨b, off + j * 3 + 2, none⟩ = some (.slice ub2 un2 uc2) := by have h9 := hc 2 _ rfl; rw [← Nat.add_assoc] at h9; exact h9
      have d0 : wr.cell? ⟨b', off' + j * 3, none⟩ = some (.slice vb0 vn0 vc0) := by have h9 := hd 0 _ rfl; rw [← Nat.add_assoc] at h9; exact h9
      have d1 : wr.cell? ⟨b', off' + j * 3 + 1, none⟩ = some (.slice vb1 vn1 vc1) := by have h9 := hd 1 _ rfl; rw [← Nat.add_assoc] at h9; exact h9
      have d2 : wr.cell? ⟨b', off' + j * 3 + 2, none⟩ = some (.slice vb2 vn2 vc2) := by have h9 := hd 2 _ rfl; rw [← Nat.add_assoc] at h9; exact h9
      have hcall := fun (W : World) (hW : Below wr.heap.size wr W) => eq_Gs _ _ x y W (rGs.mono hr hW) (rGs.mono hr' hW)
      obtain ⟨t, ht⟩ : ∃ t, t = decide (x = y) := ⟨_, rfl⟩
      rw [← ht] at hcall
      have HC := Lib.hid hcall
      clear hcall hi hi' hr hr' hc hd
      have HT : Hid (if t = true then xs.take (j + 1) = ys.take (j + 1) else decide (xs = ys) = false) := by
        cases t
        · simp only [Bool.false_eq_true, if_false]
          have hxy : x ≠ y := by simpa using ht.symm
          simp only [Hid, Bool.false_eq_true, if_false, decide_eq_false_iff_not]; intro e; subst e; exact hxy (Option.some.inj (hx.out.symm.trans hy.out))
        · have hxy : x = y := by simpa using ht.symm
          simp only [Hid, if_true]; rw [take_snoc' xs j x hx.out, take_snoc' ys j y hy.out, hE.out, hxy]
      clear ht hx hy hE
      have lb : b < wr.heap.size := cell_lt c0
      have lb' : b' < wr.heap.size := cell_lt d0
      go_wp2_with fail
      go_region_held3 (fun W => W.cell? ⟨b, off + j * 3, none⟩ = some (.slice ub0 un0 uc0) ∧ W.cell? ⟨b, off + j * 3 + 1, none⟩ = some (.slice ub1 un1 uc1) ∧ W.cell? ⟨b, off + j * 3 + 2, none⟩ = some (.slice ub2 un2 uc2) ∧ W.cell? ⟨b', off' + j * 3, none⟩ = some (.slice vb0 vn0 vc0) ∧ W.cell? ⟨b', off' + j * 3 + 1, none⟩ = some (.slice vb1 vn1 vc1) ∧ W.cell? ⟨b', off' + j * 3 + 2, none⟩ = some (.slice vb2 vn2 vc2)) (first | exact ⟨c0, c1, c2, d0, d1, d2⟩ | assumption) ((go_at_call 198; refine (HC.out _ (Below.refl _ _).drew).mono ?_; rintro e w1 ⟨rfl, z1⟩; replace z1 : Below wr.heap.size wr w1 := (Below.refl _ _).drew.trans z1; have hS0 := (⟨(z1.cell (p := ⟨b, off + j * 3, none⟩) (by simp only []; omega)).trans c0, (z1.cell (p := ⟨b, off + j * 3 + 1, none⟩) (by simp only []; omega)).trans c1, (z1.cell (p := ⟨b, off + j * 3 + 2, none⟩) (by simp only []; omega)).trans c2, (z1.cell (p := ⟨b', off' + j * 3, none⟩) (by simp only []; omega)).trans d0, (z1.cell (p := ⟨b', off' + j * 3 + 1, none⟩) (by simp only []; omega)).trans d1, (z1.cell (p := ⟨b', off' + j * 3 + 2, none⟩) (by simp only []; omega)).trans d2⟩ : (fun W => W.cell? ⟨b, off + j * 3, none⟩ = some (.slice ub0 un0 uc0) ∧ W.cell? ⟨b, off + j * 3 + 1, none⟩ = some (.slice ub1 un1 uc1) ∧ W.cell? ⟨b, off + j * 3 + 2, none⟩ = some (.slice ub2 un2 uc2) ∧ W.cell? ⟨b', off' + j * 3, none⟩ = some (.slice vb0 vn0 vc0) ∧ W.cell? ⟨b', off' + j * 3 + 1, none⟩ = some (.slice vb1 vn1 vc1) ∧ W.cell? ⟨b', off' + j * 3 + 2, none⟩ = some (.slice vb2 vn2 vc2)) w1)))
      replace z1 : Below wr.heap.size wr w1 := z1
      have z2 := on hb z1
      cases t
      · have HE : Hid (decide (xs = ys) = false) := by simpa [Hid] using HT.out
        go_wp2_with fail
        go_ret
        exact ⟨ret_bool HE.out.symm, z2⟩
      · have HE : Hid (xs.take (j + 1) = ys.take (j + 1)) := by simpa [Hid] using HT.out
        go_wp2_with fail
        go_roundw
        case rel => exact ⟨j + 1, by omega, by go_num, HE.out, z2⟩
        case measure => simp [intOf]; omega
    · have HE := Lib.hid (show decide (xs = ys) = true by
        have e := hE.out
        rw [List.take_of_length_le (by omega), List.take_of_length_le (by omega)] at e
        simp [e])
      clear hi hi' hl hl'
      go_wp2_with fail
      go_ret
      exact ⟨ret_bool HE.out.symm, hb⟩

end Go.Proofs.Ytbkoddikfpkocaa

/- Kind Q: shape, size, copy, comparison. Written by a program. -/
namespace Go.Proofs.Ytbkoddikfpkocaa
open Go.RowKit
set_option linter.unusedVariables false
set_option linter.unusedSimpArgs false
set_option synthInstance.maxSize 2000
set_option synthInstance.maxHeartbeats 400000

abbrev DQ := Int × List DA
def rQ : RS DQ := R.pair R.int rAs
def oQ : OS DQ := O.pair O.int oAs
theorem reads_Q : Reads oQ rQ := Reads.pair Reads.int reads_As
theorem rQ_open {w : World} {cs : List Value} {x : DQ} (h : rQ.rep w cs x) : ∃ ub1 un1 uc1, cs = [.int .i64 x.1, .slice ub1 un1 uc1] ∧ I64 x.1 ∧ rAs.rep w [.slice ub1 un1 uc1] x.2 := by
  obtain ⟨c0a, c0b, rfl, ⟨rfl, hi0⟩, hr1⟩ := h
  obtain ⟨ub1, un1, uc1, rfl⟩ := rAs_form hr1
  exact ⟨_, _, _, rfl, hi0, hr1⟩
theorem rQ_form {w : World} {cs : List Value} {x : DQ} (h : rQ.rep w cs x) : ∃ ub1 un1 uc1, cs = [.int .i64 x.1, .slice ub1 un1 uc1] := by
  obtain ⟨ub1, un1, uc1, h1, _⟩ := rQ_open h
  exact ⟨_, _, _, h1⟩
theorem rQ_mk {w : World} {ub1 : Option Addr} {un1 uc1 : Nat} {x : DQ} (h0 : I64 x.1) (h1 : rAs.rep w [.slice ub1 un1 uc1] x.2) : rQ.rep w [.int .i64 x.1, .slice ub1 un1 uc1] x :=
  ⟨[.int .i64 x.1], [.slice ub1 un1 uc1], rfl, ⟨rfl, h0⟩, h1⟩
theorem oQ_form {lo hi : Nat} {w : World} {cs : List Value} {x : DQ} (h : Own oQ lo hi w cs x) : ∃ ub1 un1 uc1, cs = [.int .i64 x.1, .slice ub1 un1 uc1] := rQ_form (h.rd reads_Q)

theorem oQ_mk {lo hi l1 m1 : Nat} {w : World} {ub1 : Option Addr} {un1 uc1 : Nat} {x : DQ} (hi0 : I64 x.1) (ho1 : Own oAs l1 m1 w [.slice ub1 un1 uc1] x.2) (a1 : lo ≤ l1) (b1 : m1 ≤ hi)  : Own oQ lo hi w [.int .i64 x.1, .slice ub1 un1 uc1] x := by
  obtain ⟨f1, r1, n1, q1⟩ := ho1
  refine ⟨([] ++ f1), ⟨[.int .i64 x.1], [.slice ub1 un1 uc1], [], f1, rfl, rfl, ⟨rfl, hi0, rfl⟩, r1⟩, ?_, ?_⟩
  · try simp only [List.nil_append, List.append_nil]
    exact n1
  · intro p hp
    try simp only [List.nil_append, List.append_nil, List.mem_append] at hp
    have := q1 p hp; omega

def bulk_Q (x : DQ) : Nat := bulk_As x.2

end Go.Proofs.Ytbkoddikfpkocaa

/- Kind Tl: shape, size, copy, comparison. Written by a program. -/
namespace Go.Proofs.Ytbkoddikfpkocaa
open Go.RowKit
set_option linter.unusedVariables false
set_option linter.unusedSimpArgs false
set_option synthInstance.maxSize 2000
set_option synthInstance.maxHeartbeats 400000

def rTl : RS (List DT) := R.slice rT
def oTl : OS (List DT) := O.slice 34 oT
theorem reads_Tl : Reads oTl rTl := Reads.slice _ reads_T
theorem rTl_form {w : World} {cs : List Value} {xs : List DT} (h : rTl.rep w cs xs) : ∃ b n c, cs = [.slice b n c] := rS_form h
theorem oTl_form1 {lo hi : Nat} {w : World} {v : Value} {xs : List DT} (h : Own oTl lo hi w [v] xs) : ∃ b n c, v = .slice b n c := oS_form1 reads_T h
def bulk_Tl (xs : List DT) : Nat := xs.length + sumBy bulk_T xs

set_option maxHeartbeats 1000000 in
theorem sz_Tl (v : Value) (xs : List DT) (left : Int) (w : World) (h : rTl.rep w [v] xs) (h0 : 0 ≤ left) (h1 : left ≤ 1048576) :
    Calls Try.prog 143 #[v, .int .i64 left] w fun e w' => e = .returned (.int .i64 (szR left (bulk_Tl xs))) ∧ Below w.heap.size w w' := by
  obtain ⟨a, cap, rfl, hn1, hn2, hi⟩ := rS_open h
  clear h
  unfold bulk_Tl
  have hsm := hi.small
  obtain ⟨n, hlen⟩ : ∃ n, xs.length = n := ⟨_, rfl⟩
  rw [hlen] at hi hsm hn1 ⊢
  by_cases hl : (n : Int) ≤ left
  case neg =>
    have HE := Lib.hid (szR_no (sumBy bulk_T xs) hl)
    clear hi
    go_enter Try.func143, Try.ntmps143
    go_wp2_with fail
    go_ret
    exact ⟨ret_int HE.out.symm, Below.refl _ _⟩
  have HE := Lib.hid (szR_add (b := sumBy bulk_T xs) hl)
  go_enter Try.func143, Try.ntmps143
  go_wp2_with fail
  go_loopw [1, 5] (fun l i wr => ∃ (j : Nat) (q : Int), j ≤ n ∧ i = .int .i64 j ∧ l = .int .i64 q ∧ 0 ≤ q ∧ q ≤ 1048576 ∧ Hid (szR left (n + sumBy bulk_T xs) = szR q (sumBy bulk_T (xs.drop j))) ∧ Below w.heap.size w wr) (fun _ i _ => n - (intOf i).toNat)
  case atStart => exact ⟨0, left - n, Nat.zero_le _, rfl, rfl, by omega, by omega, HE.out, Below.refl _ _⟩
  case round =>
    obtain ⟨j, q, hj, rfl, rfl, q0, q1, hE, hb⟩ := hrel
    clear HE
    by_cases hlt : j < n
    · obtain ⟨b, off, cs, x, rfl, hx, hr, hc⟩ := (hi.below hb).at hlt
      obtain ⟨ub2, un2, uc2, rfl⟩ := rT_form hr
      have c0 : wr.cell? ⟨b, off + j * 3, none⟩ = some (.string x.1) := by have h9 := hc 0 _ rfl; rw [← Nat.add_assoc] at h9; exact h9
      have c1 : wr.cell? ⟨b, off + j * 3 + 1, none⟩ = some (.int .i64 x.2.1) := by have h9 := hc 1 _ rfl; rw [← Nat.add_assoc] at h9; exact h9
      have c2 : wr.cell? ⟨b, off + j * 3 + 2, none⟩ = some (.slice ub2 un2 uc2) := by have h9 := hc 2 _ rfl; rw [← Nat.add_assoc] at h9; exact h9
      clear hc
      have HS := hE.out.trans (congrArg (szR q) (sumBy_drop bulk_T hx.out))
      have hcs := szR_cases q (bulk_T x)
      have hcall := sz_T _ x q wr hr q0 q1
      obtain ⟨p, hp⟩ : ∃ p, p = szR q (bulk_T x) := ⟨_, rfl⟩
      rw [← hp] at hcall hcs
      have HC := Lib.hid hcall
      clear hcall hi
      rcases hcs with ⟨rfl, l⟩ | ⟨hp2, l⟩
      · have HE := Lib.hid (HS.trans (szR_no _ l))
        clear hp HS l hE
        go_wp2_with fail
        refine HC.out.mono ?_
        rintro e w1 ⟨rfl, z1⟩
        go_wp2_with fail
        go_ret
        exact ⟨ret_int HE.out.symm, on hb z1⟩
      · have HE := Lib.hid (HS.trans ((szR_add l).trans (by rw [← hp2])) : szR left (n + sumBy bulk_T xs) = szR p (sumBy bulk_T (xs.drop (j + 1))))
        have p0 : 0 ≤ p := by omega
        have p1 : p ≤ 1048576 := by omega
        clear hp hp2 HS l hE
        go_wp2_with fail
        refine HC.out.mono ?_
        rintro e w1 ⟨rfl, z1⟩
        go_wp2_with fail
        go_roundw
        case rel => exact ⟨j + 1, p, by omega, by go_num, rfl, p0, p1, HE, on hb z1⟩
        case measure => simp [intOf]; omega
    · have HE := Lib.hid (hE.out.trans (by rw [sumBy_end _ (by omega)]; unfold szR; rw [if_pos (by omega)]; simp) : szR left (n + sumBy bulk_T xs) = q)
      clear hi hE
      go_wp2_with fail
      go_ret
      exact ⟨ret_int HE.out.symm, hb⟩

set_option maxHeartbeats 2000000 in
set_option maxRecDepth 100000 in
theorem to_Tl (v : Value) (xs : List DT) (w : World) (h : rTl.rep w [v] xs) (hn : bulk_Tl xs ≤ 1048576) :
    Calls Try.prog 145 #[v] w fun e w' => ∃ u, e = .returned u ∧ Own oTl w.heap.size w'.heap.size w' [u] xs ∧ Below w.heap.size w w' := by
  obtain ⟨a, cap, rfl, hn1, hn2, hi⟩ := rS_open h
  clear h
  unfold bulk_Tl at hn
  obtain ⟨n, hlen⟩ : ∃ n, xs.length = n := ⟨_, rfl⟩
  rw [hlen] at hi hn hn1 ⊢
  have hbk : ∀ (j : Nat) x, xs[j]? = some x → bulk_T x ≤ 1048576 := fun j x hx => by have := sumBy_mem bulk_T hx; omega
  have hn3 : n ≤ 100000000 := by omega
  clear hn
  go_enter Try.func145, Try.ntmps145
  go_wp2_with (at_make; refine wpList_mkS (size := 3) (bytes := 48) (z := .agg #[.string ⟨#[]⟩, .int .i64 0, .slice none 0 0]) rfl rfl rfl (by decide) (by decide) oT xs _ _ n hn3 rfl rfl rfl rfl ?_; intro w1 hp1 hb1 hz1)
  go_wp2_with fail
  go_loopw [4] (fun k wr => ∃ j : Nat, j ≤ n ∧ k = .int .i64 j ∧ Part 34 oT [.string ⟨#[]⟩, .int .i64 0, .slice none 0 0] w.heap.size wr w.heap.size n j xs ∧ Below w.heap.size w wr) (fun k _ => n - (intOf k).toNat)
  case atStart => exact ⟨0, Nat.zero_le _, rfl, hp1, hb1⟩
  case round =>
    obtain ⟨j, hj, rfl, hp, hb⟩ := hrel
    clear hp1 hb1
    by_cases hlt : j < n
    · obtain ⟨b, off, cs, x, rfl, hx, hr, hc⟩ := (hi.below hb).at hlt
      obtain ⟨ub2, un2, uc2, rfl⟩ := rT_form hr
      have c0 : wr.cell? ⟨b, off + j * 3, none⟩ = some (.string x.1) := by have h9 := hc 0 _ rfl; rw [← Nat.add_assoc] at h9; exact h9
      have c1 : wr.cell? ⟨b, off + j * 3 + 1, none⟩ = some (.int .i64 x.2.1) := by have h9 := hc 1 _ rfl; rw [← Nat.add_assoc] at h9; exact h9
      have c2 : wr.cell? ⟨b, off + j * 3 + 2, none⟩ = some (.slice ub2 un2 uc2) := by have h9 := hc 2 _ rfl; rw [← Nat.add_assoc] at h9; exact h9
      clear hc
      have hg : w.heap.size < wr.heap.size := by obtain ⟨_, _, _, _, _, _, _, h9⟩ := hp; exact h9
      have HC := Lib.hid (to_T _ x wr hr (hbk j x hx.out))
      have HI := Lib.hid hi
      go_wp2_with fail
      refine HC.out.mono ?_
      rintro e w1 ⟨d, rfl, ho, z1⟩
      obtain ⟨db2, dn2, dc2, rfl⟩ := oT_form ho
      have s1 := z1.size
      have hp1 : Part 34 oT [.string ⟨#[]⟩, .int .i64 0, .slice none 0 0] w.heap.size w1 w.heap.size n j xs := hp.below z1 (Nat.le_refl _)
      obtain ⟨⟨e0, f0⟩, g0⟩ := hp1.cell rfl hlt (by omega) 0 (by decide)
      replace f0 : w1.cell? ⟨w.heap.size, j * 3, none⟩ = some e0 := f0
      replace g0 : w1.frozen? ⟨w.heap.size, j * 3, none⟩ = false := g0
      obtain ⟨⟨e1, f1⟩, g1⟩ := hp1.cell rfl hlt (by omega) 1 (by decide)
      replace f1 : w1.cell? ⟨w.heap.size, j * 3 + 1, none⟩ = some e1 := f1
      replace g1 : w1.frozen? ⟨w.heap.size, j * 3 + 1, none⟩ = false := g1
      obtain ⟨⟨e2, f2⟩, g2⟩ := hp1.cell rfl hlt (by omega) 2 (by decide)
      replace f2 : w1.cell? ⟨w.heap.size, j * 3 + 2, none⟩ = some e2 := f2
      replace g2 : w1.frozen? ⟨w.heap.size, j * 3 + 2, none⟩ = false := g2
      have HP := Lib.hid (hp1.step (cs := [.string x.1, .int .i64 x.2.1, .slice db2 dn2 dc2]) rfl hlt hx.out ho hg ⟨wr, hp, Nat.le_refl _, fun p hp => z1.block p hp⟩ (Nat.le_refl _) (by omega))
      have hb1 := on hb z1
      clear ho hp hp1
      go_wp2_with fail
      go_roundw
      case rel => exact ⟨j + 1, by omega, by go_num, HP.out, (((hb1.setCell (Nat.le_refl _) _).setCell (Nat.le_refl _) _).setCell (Nat.le_refl _) _)⟩
      case measure => simp [intOf]; omega
    · have hjn : j = n := by omega
      subst hjn
      have HO := Lib.hid (hp.done hlen (by omega))
      clear hp hi
      go_wp2_with fail
      go_ret
      exact ⟨_, rfl, HO.out, hb⟩

set_option maxHeartbeats 2000000 in
theorem eq_Tl (u v : Value) (xs ys : List DT) (w : World) (h : rTl.rep w [u] xs) (h' : rTl.rep w [v] ys) :
    Calls Try.prog 147 #[u, v] w fun e w' => e = .returned (.bool (decide (xs = ys))) ∧ Below w.heap.size w w' := by
  obtain ⟨a, cap, rfl, _, _, hi⟩ := rS_open h
  obtain ⟨a', cap', rfl, _, _, hi'⟩ := rS_open h'
  clear h h'
  have hn := hi.small
  have hn' := hi'.small
  obtain ⟨n, hl⟩ : ∃ n, xs.length = n := ⟨_, rfl⟩
  obtain ⟨m, hl'⟩ : ∃ n, ys.length = n := ⟨_, rfl⟩
  rw [hl] at hi hn ⊢
  rw [hl'] at hi' hn' ⊢
  by_cases hnm : n = m
  case neg =>
    have HE := Lib.hid (show decide (xs = ys) = false by simp only [decide_eq_false_iff_not]; intro e; subst e; omega)
    have hne : ((n : Int) != (m : Int)) = true := by rw [bne_iff_ne]; omega
    clear hl hl' hi hi'
    go_enter Try.func147, Try.ntmps147
    go_wp2_with fail
    go_ret
    exact ⟨ret_bool HE.out.symm, Below.refl _ _⟩
  subst hnm
  go_enter Try.func147, Try.ntmps147
  go_wp2_with fail
  go_loopw [5] (fun k wr => ∃ j : Nat, j ≤ n ∧ k = .int .i64 j ∧ Hid (xs.take j = ys.take j) ∧ Below w.heap.size w wr) (fun k _ => n - (intOf k).toNat)
  case atStart => exact ⟨0, Nat.zero_le _, rfl, rfl, Below.refl _ _⟩
  case round =>
    obtain ⟨j, hj, rfl, hE, hb⟩ := hrel
    by_cases hlt : j < n
    · obtain ⟨b, off, cs, x, rfl, hx, hr, hc⟩ := (hi.below hb).at hlt
      obtain ⟨b', off', ds, y, rfl, hy, hr', hd⟩ := (hi'.below hb).at hlt
      obtain ⟨ub2, un2, uc2, rfl⟩ := rT_form hr
      obtain ⟨vb2, vn2, vc2, rfl⟩ := rT_form hr'
      have c0 : wr.cell? ⟨b, off + j * 3, none⟩ = some (.string x.1) := by have h9 := hc 0 _ rfl; rw [← Nat.add_assoc] at h9; exact h9
      have c1 : wr.cell? ⟨b, off + j * 3 + 1, none⟩ = some (.int .i64 x.2.1) := by have h9 := hc 1 _ rfl; rw [← Nat.add_assoc] at h9; exact h9
      have c2 : wr.cell? ⟨b, off + j * 3 + 2, none⟩ = some (.slice ub2 un2 uc2) := by have h9 := hc 2 _ rfl; rw [← Nat.add_assoc] at h9; exact h9
      have d0 : wr.cell? ⟨b', off' + j * 3, none⟩ = some (.string y.1) := by have h9 := hd 0 _ rfl; rw [← Nat.add_assoc] at h9; exact h9
      have d1 : wr.cell? ⟨b', off' + j * 3 + 1, none⟩ = some (.int .i64 y.2.1) := by have h9 := hd 1 _ rfl; rw [← Nat.add_assoc] at h9; exact h9
      have d2 : wr.cell? ⟨b', off' + j * 3 + 2, none⟩ = some (.slice vb2 vn2 vc2) := by have h9 := hd 2 _ rfl; rw [← Nat.add_assoc] at h9; exact h9
      have hcall := fun (W : World) (hW : Below wr.heap.size wr W) => eq_T _ _ x y W (rT.mono hr hW) (rT.mono hr' hW)
      obtain ⟨t, ht⟩ : ∃ t, t = decide (x = y) := ⟨_, rfl⟩
      rw [← ht] at hcall
      have HC := Lib.hid hcall
      clear hcall hi hi' hr hr' hc hd
      have HT : Hid (if t = true then xs.take (j + 1) = ys.take (j + 1) else decide (xs = ys) = false) := by
        cases t
        · simp only [Bool.false_eq_true, if_false]
          have hxy : x ≠ y := by simpa using ht.symm
          simp only [Hid, Bool.false_eq_true, if_false, decide_eq_false_iff_not]; intro e; subst e; exact hxy (Option.some.inj (hx.out.symm.trans hy.out))
        · have hxy : x = y := by simpa using ht.symm
          simp only [Hid, if_true]; rw [take_snoc' xs j x hx.out, take_snoc' ys j y hy.out, hE.out, hxy]
      clear ht hx hy hE
      have lb : b < wr.heap.size := cell_lt c0
      have lb' : b' < wr.heap.size := cell_lt d0
      go_wp2_with fail
      go_region_held3 (fun W => W.cell? ⟨b, off + j * 3, none⟩ = some (.string x.1) ∧ W.cell? ⟨b, off + j * 3 + 1, none⟩ = some (.int .i64 x.2.1) ∧ W.cell? ⟨b, off + j * 3 + 2, none⟩ = some (.slice ub2 un2 uc2) ∧ W.cell? ⟨b', off' + j * 3, none⟩ = some (.string y.1) ∧ W.cell? ⟨b', off' + j * 3 + 1, none⟩ = some (.int .i64 y.2.1) ∧ W.cell? ⟨b', off' + j * 3 + 2, none⟩ = some (.slice vb2 vn2 vc2)) (first | exact ⟨c0, c1, c2, d0, d1, d2⟩ | assumption) ((go_at_call 65; refine (HC.out _ (Below.refl _ _).drew).mono ?_; rintro e w1 ⟨rfl, z1⟩; replace z1 : Below wr.heap.size wr w1 := (Below.refl _ _).drew.trans z1; have hS0 := (⟨(z1.cell (p := ⟨b, off + j * 3, none⟩) (by simp only []; omega)).trans c0, (z1.cell (p := ⟨b, off + j * 3 + 1, none⟩) (by simp only []; omega)).trans c1, (z1.cell (p := ⟨b, off + j * 3 + 2, none⟩) (by simp only []; omega)).trans c2, (z1.cell (p := ⟨b', off' + j * 3, none⟩) (by simp only []; omega)).trans d0, (z1.cell (p := ⟨b', off' + j * 3 + 1, none⟩) (by simp only []; omega)).trans d1, (z1.cell (p := ⟨b', off' + j * 3 + 2, none⟩) (by simp only []; omega)).trans d2⟩ : (fun W => W.cell? ⟨b, off + j * 3, none⟩ = some (.string x.1) ∧ W.cell? ⟨b, off + j * 3 + 1, none⟩ = some (.int .i64 x.2.1) ∧ W.cell? ⟨b, off + j * 3 + 2, none⟩ = some (.slice ub2 un2 uc2) ∧ W.cell? ⟨b', off' + j * 3, none⟩ = some (.string y.1) ∧ W.cell? ⟨b', off' + j * 3 + 1, none⟩ = some (.int .i64 y.2.1) ∧ W.cell? ⟨b', off' + j * 3 + 2, none⟩ = some (.slice vb2 vn2 vc2)) w1)))
      replace z1 : Below wr.heap.size wr w1 := z1
      have z2 := on hb z1
      cases t
      · have HE : Hid (decide (xs = ys) = false) := by simpa [Hid] using HT.out
        go_wp2_with fail
        go_ret
        exact ⟨ret_bool HE.out.symm, z2⟩
      · have HE : Hid (xs.take (j + 1) = ys.take (j + 1)) := by simpa [Hid] using HT.out
        go_wp2_with fail
        go_roundw
        case rel => exact ⟨j + 1, by omega, by go_num, HE.out, z2⟩
        case measure => simp [intOf]; omega
    · have HE := Lib.hid (show decide (xs = ys) = true by
        have e := hE.out
        rw [List.take_of_length_le (by omega), List.take_of_length_le (by omega)] at e
        simp [e])
      clear hi hi' hl hl'
      go_wp2_with fail
      go_ret
      exact ⟨ret_bool HE.out.symm, hb⟩

end Go.Proofs.Ytbkoddikfpkocaa

/- The laws' marks: what they turn. -/
namespace Go.Proofs.Ytbkoddikfpkocaa
open Go.RowKit
set_option linter.unusedVariables false
set_option linter.unusedSimpArgs false

/-- Of the blocks that stood in w, at most those of fp have turned. -/
structure Alt (fp : List Nat) (w w' : World) : Prop where
  os : w'.os = w.os
  tape : w'.tape = w.tape
  output : w'.output = w.output
  size : w.heap.size ≤ w'.heap.size
  block : ∀ k, k < w.heap.size → k ∉ fp → w'.heap[k]? = w.heap[k]?
theorem Alt.refl (fp : List Nat) (w : World) : Alt fp w w := ⟨rfl, rfl, rfl, Nat.le_refl _, fun _ _ _ => rfl⟩
theorem Alt.trans {fp : List Nat} {a b c : World} (h : Alt fp a b) (k : Alt fp b c) : Alt fp a c :=
  ⟨k.os.trans h.os, k.tape.trans h.tape, k.output.trans h.output, Nat.le_trans h.size k.size, fun i hi hn => (k.block i (Nat.lt_of_lt_of_le hi h.size) hn).trans (h.block i hi hn)⟩
theorem Alt.mono {fp fq : List Nat} {w w' : World} (h : Alt fp w w') (hs : ∀ k ∈ fp, k ∈ fq) : Alt fq w w' :=
  ⟨h.os, h.tape, h.output, h.size, fun k hk hn => h.block k hk (fun hm => hn (hs k hm))⟩
theorem Alt.only {fp : List Nat} {w w' : World} (h : Only fp w w') : Alt fp w w' := ⟨h.os, h.tape, h.output, by rw [h.size]; exact Nat.le_refl _, fun k _ hn => h.block k hn⟩
theorem Alt.below {fp : List Nat} {w w' : World} (h : Below w.heap.size w w') : Alt fp w w' := ⟨h.os, h.tape, h.output, h.size, fun k hk _ => h.block k hk⟩
theorem Alt.set {fp : List Nat} {w : World} {p : Addr} (hp : p.block ∈ fp) (u : Value) : Alt fp w (w.setCell p u) :=
  ⟨rfl, rfl, rfl, by simp [World.setCell], fun k hk hn => Below.heap_setCell _ _ _ _ (fun e => hn (e ▸ hp))⟩
theorem Alt.turn {fp : List Nat} {lo hi : Nat} {w w' : World} (h : Alt fp w w') (hk : ∀ k ∈ fp, lo ≤ k ∧ k < hi) : Turn lo hi w w' :=
  ⟨h.os, h.tape, h.output, h.size, fun k h1 h2 => h.block k h1 (fun hm => by have := hk k hm; omega)⟩

/-- Marks laid one behind the other. -/
def mkL {α : Type} (m : Int → α → α) (c : α → Nat) : Int → List α → List α
  | _, [] => []
  | k, x :: t => m k x :: mkL m c (k + c x) t
theorem mkL_len {α : Type} (m : Int → α → α) (c : α → Nat) : ∀ (k : Int) (xs : List α), (mkL m c k xs).length = xs.length
  | _, [] => rfl
  | k, x :: t => by simp [mkL, mkL_len m c]
theorem mkL_get {α : Type} (m : Int → α → α) (c : α → Nat) : ∀ (k : Int) (xs : List α) (j : Nat) (x : α), xs[j]? = some x → (mkL m c k xs)[j]? = some (m (k + sumBy c (xs.take j)) x)
  | k, [], j, x, h => by simp at h
  | k, y :: t, 0, x, h => by simp at h; subst h; simp [mkL, sumBy]
  | k, y :: t, j + 1, x, h => by
    have := mkL_get m c (k + c y) t j x (by simpa using h)
    simp only [mkL, List.getElem?_cons_succ, this, List.take_succ_cons]
    congr 2
    simp [sumBy]; omega
/-- The first j are marked. -/
def mkLTo {α : Type} (m : Int → α → α) (c : α → Nat) (k : Int) (xs : List α) (j : Nat) : List α := (mkL m c k xs).take j ++ xs.drop j
theorem mkLTo_get {α : Type} (m : Int → α → α) (c : α → Nat) (k : Int) (xs : List α) (j : Nat) (x : α) (h : xs[j]? = some x) : (mkLTo m c k xs j)[j]? = some x := by
  have hj := (List.getElem?_eq_some_iff.1 h).1
  unfold mkLTo
  rw [List.getElem?_append_right (by simp [mkL_len]; omega), List.getElem?_drop]
  simp only [List.length_take, mkL_len]
  rw [show min j xs.length = j by omega, show j + (j - j) = j by omega]
  exact h
theorem mkLTo_step {α : Type} (m : Int → α → α) (c : α → Nat) (k : Int) (xs : List α) (j : Nat) (x : α) (h : xs[j]? = some x) : (mkLTo m c k xs j).set j (m (k + sumBy c (xs.take j)) x) = mkLTo m c k xs (j + 1) := by
  have hj := (List.getElem?_eq_some_iff.1 h).1
  unfold mkLTo
  rw [take_snoc' _ _ _ (mkL_get m c k xs j x h), List.set_append_right _ _ (by simp [mkL_len]; omega)]
  have e : xs.drop j = x :: xs.drop (j + 1) := by
    rw [List.drop_eq_getElem_cons hj]; congr 1; exact (List.getElem?_eq_some_iff.1 h).2
  rw [e]
  simp only [List.length_take, mkL_len]
  rw [show j - min j xs.length = 0 by omega]
  simp
theorem mkLTo_all {α : Type} (m : Int → α → α) (c : α → Nat) (k : Int) (xs : List α) {n : Nat} (h : xs.length = n) : mkLTo m c k xs n = mkL m c k xs := by
  subst h
  unfold mkLTo
  rw [List.take_of_length_le (by rw [mkL_len]; exact Nat.le_refl _)]
  simp
theorem mkLTo_zero {α : Type} (m : Int → α → α) (c : α → Nat) (k : Int) (xs : List α) : mkLTo m c k xs 0 = xs := by simp [mkLTo]

/-- One element of an owned slice, its cells in the slice's block. -/
theorem slice_at {α : Type} {t : TypeId} {o : OS α} {w : World} {a : Option Addr} {n cap : Nat} {xs : List α} {fp : List Nat} (h : (O.slice t o).rep w [.slice a n cap] xs fp) (hn : fp.Nodup) {i : Nat} {x : α} (hx : xs[i]? = some x) :
    ∃ g c f pre post E, a = some ⟨g, 0, none⟩ ∧ g ∈ fp ∧ g ∉ f ∧ g < w.heap.size ∧ o.rep w c x f ∧ f.Nodup ∧ (∀ k ∈ f, k ∈ fp) ∧ pre.length = i * o.size ∧ w.heap[g]? = some (.cells (pre ++ (c ++ post)).toArray E) ∧
      ∀ w' x' c', o.rep w' c' x' f → w'.heap[g]? = some (.cells (pre ++ (c' ++ post)).toArray E) → (∀ k ∈ fp, k ≠ g → k ∉ f → w'.heap[k]? = w.heap[k]?) → (O.slice t o).rep w' [.slice a n cap] (xs.set i x') fp := by
  have hlt := (O.slice t o).lt h
  obtain ⟨v, css, fps, hv, rfl, h1, h2⟩ := h
  simp at hv
  subst hv
  obtain ⟨c, f, hc, hf, hr⟩ := o.rows_get h2 i x hx
  have hnl := List.nodup_append.1 hn
  have hmem : ∀ k ∈ f, k ∈ fps.flatten := fun k hk => List.mem_flatten.2 ⟨f, List.mem_of_getElem? hf, hk⟩
  have hsub : f.Sublist fps.flatten := List.sublist_flatten_of_mem (List.mem_of_getElem? hf)
  have hix := (List.getElem?_eq_some_iff.1 hx).1
  have hic := (List.getElem?_eq_some_iff.1 hc).1
  rcases h1.2 with ⟨hv, h0⟩ | ⟨g, cap', cur, hv, hB, hg, hnc, hcm, hcs, htake⟩
  · omega
  simp at hv
  obtain ⟨rfl, rfl, rfl⟩ := hv
  have hcl := o.len hr
  have hgf : g ∉ f := fun hm => hnl.2.2 g (by simp [bl, Value.ownBlock]) g (hmem g hm) rfl
  have hsplit : css = css.take i ++ c :: css.drop (i + 1) := by
    conv => lhs; rw [← List.take_append_drop i css]
    rw [List.drop_eq_getElem_cons hic]
    congr 2
    exact (List.getElem?_eq_some_iff.1 hc).2
  have hpre : ((css.take i).flatten).length = i * o.size := by
    have hr2 : o.rows w (css.take i) (xs.take i) (fps.take i) := by
      have : ∀ {css : List (List Value)} {xs : List α} {fps : List (List Nat)} (h : o.rows w css xs fps) (i : Nat), o.rows w (css.take i) (xs.take i) (fps.take i) := by
        intro css
        induction css with
        | nil => intro xs fps h i; match xs, fps, h with
          | [], [], _ => simp [OS.rows]
        | cons c cs ih => intro xs fps h i; match xs, fps, h with
          | y :: ys, p :: ps, h => cases i with
            | zero => simp [OS.rows]
            | succ i => simp only [List.take_succ_cons]; exact ⟨h.1, ih h.2 i⟩
      exact this h2 i
    rw [(o.rows_len hr2).2.2, List.length_take, Nat.min_eq_left (by omega)]
  refine ⟨g, c, f, (css.take i).flatten, (css.drop (i + 1)).flatten ++ cur.toList.drop (xs.length * o.size), t, rfl, by simp [bl, Value.ownBlock], hgf, hlt g (by simp [bl, Value.ownBlock]), hr, hsub.nodup hnl.2.1, fun k hk => List.mem_append_right _ (hmem k hk), hpre, ?_, ?_⟩
  · rw [hg]
    congr 2
    apply Array.ext'
    simp only []
    conv => lhs; rw [← List.take_append_drop (xs.length * o.size) cur.toList, htake, hsplit]
    simp
  · intro w' x' c' hr' hg' hk
    have hcl' := o.len hr'
    have hsp' : css.set i c' = css.take i ++ c' :: css.drop (i + 1) := by
      rw [List.set_eq_take_append_cons_drop, if_pos hic]
    refine ⟨_, css.set i c', fps, rfl, rfl, ?_, ?_⟩
    · refine ⟨?_, .inr ⟨g, cap, _, by rw [List.length_set], hB, hg', by rw [List.length_set]; exact hnc, hcm, ?_, ?_⟩⟩
      · have h9 := h1.1
        rw [hsplit] at h9
        rw [hsp', List.length_set]
        simp only [List.flatten_append, List.flatten_cons, List.length_append] at h9 ⊢
        omega
      · have h9 := h1.1
        rw [hsplit] at h9
        simp only [List.flatten_append, List.flatten_cons, List.length_append] at h9
        have h8 := Nat.mul_le_mul_right o.size hnc
        simp only [List.size_toArray, List.length_append, List.length_drop, Array.length_toList]
        omega
      · have h9 := h1.1
        rw [hsplit] at h9
        simp only [List.flatten_append, List.flatten_cons, List.length_append] at h9
        rw [List.length_set, hsp']
        simp only [List.flatten_append, List.flatten_cons]
        rw [show (css.take i).flatten ++ (c' ++ ((css.drop (i + 1)).flatten ++ cur.toList.drop (xs.length * o.size))) = ((css.take i).flatten ++ (c' ++ (css.drop (i + 1)).flatten)) ++ cur.toList.drop (xs.length * o.size) by simp]
        rw [List.take_append_of_le_length (by simp only [List.length_append]; omega), List.take_of_length_le (by simp only [List.length_append]; omega)]
    · have key : ∀ {css : List (List Value)} {xs : List α} {fps : List (List Nat)} (h : o.rows w css xs fps) (i : Nat), fps[i]? = some f → fps.flatten.Nodup → (∀ k ∈ fps.flatten, k ∉ f → w'.heap[k]? = w.heap[k]?) → o.rows w' (css.set i c') (xs.set i x') fps := by
        intro css
        induction css with
        | nil => intro xs fps h i hf hn hk; match xs, fps, h with
          | [], [], _ => simp at hf
        | cons c cs ih => intro xs fps h i hf hn hk; match xs, fps, h with
          | y :: ys, p :: ps, h =>
            simp only [List.flatten_cons] at hn hk
            have hn' := List.nodup_append.1 hn
            cases i with
            | zero =>
              simp at hf; subst hf
              exact ⟨hr', o.rows_frame h.2 (fun k hm => hk k (List.mem_append_right _ hm) (fun hq => hn'.2.2 k hq k hm rfl))⟩
            | succ i =>
              simp only [List.getElem?_cons_succ] at hf
              have hin : ∀ k ∈ f, k ∈ ps.flatten := fun k hk => List.mem_flatten.2 ⟨f, List.mem_of_getElem? hf, hk⟩
              exact ⟨o.frame h.1 (fun k hm => hk k (List.mem_append_left _ hm) (fun hq => hn'.2.2 k hm k (hin k hq) rfl)), ih h.2 i hf hn'.2.1 (fun k hm hq => hk k (List.mem_append_right _ hm) hq)⟩
      refine key h2 i hf hnl.2.1 (fun k hm hq => hk k (List.mem_append_right _ hm) (fun e => ?_) hq)
      subst e
      exact hnl.2.2 k (by simp [bl, Value.ownBlock]) k hm rfl
theorem oS_len {α : Type} {t : TypeId} {o : OS α} {w : World} {cs : List Value} {xs : List α} {fp : List Nat} (h : (O.slice t o).rep w cs xs fp) : ∃ a cap, cs = [.slice a xs.length cap] := by
  obtain ⟨v, css, fps, rfl, _, h1, _⟩ := h
  obtain ⟨a, cap, rfl, _⟩ := own_form h1
  exact ⟨a, cap, rfl⟩
theorem oS_len1 {α : Type} {t : TypeId} {o : OS α} {w : World} {a : Option Addr} {n cap : Nat} {xs : List α} {fp : List Nat} (h : (O.slice t o).rep w [.slice a n cap] xs fp) : xs.length = n := by
  obtain ⟨a, cap, hv⟩ := oS_len h
  simp at hv
  exact hv.2.1.symm
theorem sumBy_le {α : Type} (f : α → Nat) {xs : List α} {j : Nat} {x : α} (h : xs[j]? = some x) : sumBy f (xs.take j) + f x ≤ sumBy f xs := by
  have h9 : sumBy f xs = sumBy f (xs.take j) + sumBy f (xs.drop j) := by
    conv => lhs; rw [← List.take_append_drop j xs]
    simp only [sumBy, List.map_append, List.sum_append]
  have h8 := sumBy_drop f h
  omega
theorem mdig_len : ∀ (f k : Nat) (out : List UInt8), (mdig f k out).length ≤ f + out.length
  | 0, _, out => by simp [mdig]
  | f + 1, k, out => by
    rw [mdig]; split
    · omega
    · have := mdig_len f (k / 10) (UInt8.ofNat (48 + k % 10) :: out); simp only [List.length_cons] at this; omega
theorem mtext_size (k : Nat) (h : k ≤ 1000000000000) : (mtext k).size ≤ 9223372036854775807 := by
  have h1 := mdig_len 20 k []
  have h2 : (mtext k).size = (mdig 20 k []).length + 1 := rfl
  rw [h2]
  simp at h1
  omega
theorem markText_int (k : Int) (w : World) (h0 : 0 < k) (hk : k ≤ 100000000000) :
    Calls Try.prog 131 #[.int .i64 k] w fun e w' => e = .returned (.string (mtext k.toNat)) ∧ Below w.heap.size w w' := by
  obtain ⟨m, rfl⟩ := Int.eq_ofNat_of_zero_le (show 0 ≤ k by omega)
  exact markText_any m w (by omega) (by omega)

theorem sumBy_two {α : Type} {c b : α → Nat} (h : ∀ x, c x ≤ 2 * (1 + b x)) : ∀ (xs : List α), sumBy c xs ≤ 2 * (xs.length + sumBy b xs)
  | [] => by simp [sumBy]
  | x :: t => by
    have h1 := sumBy_two h t
    have h2 := h x
    simp only [sumBy, List.map_cons, List.sum_cons, List.length_cons] at h1 ⊢
    omega
theorem cntSS_le (xss : List (List Int)) : cntSS xss ≤ sumBy bulk_I xss := Nat.le_of_eq rfl
def cnt_II (xss : List (List Int)) : Nat := cntSS xss
def mk_II (k : Int) (xss : List (List Int)) : List (List Int) := mkSS k xss
theorem cnt_le_II (xss : List (List Int)) : cnt_II xss ≤ 2 * bulk_II xss := by
  have := cntSS_le xss
  unfold cnt_II bulk_II; omega

theorem at_cell {w : World} {g p : Nat} {pre c post : List Value} {E : TypeId} (h : w.heap[g]? = some (.cells (pre ++ (c ++ post)).toArray E)) (hp : pre.length = p) {j : Nat} {u : Value} (hu : c[j]? = some u) : w.cell? ⟨g, p + j, none⟩ = some u := by
  have hj := (List.getElem?_eq_some_iff.1 hu).1
  simp only [World.cell?, h]
  simp only [Option.isSome_none, Bool.false_eq_true, if_false]
  rw [List.getElem?_toArray, List.getElem?_append_right (by omega), List.getElem?_append_left (by omega), show p + j - pre.length = j by omega]
  exact hu
theorem at_frozen {w : World} {g : Nat} {cs : Array Value} {E : TypeId} (h : w.heap[g]? = some (.cells cs E)) (i : Nat) : w.frozen? ⟨g, i, none⟩ = false := by simp [World.frozen?, h]
theorem at_set {w : World} {g p : Nat} {pre c post : List Value} {E : TypeId} (h : w.heap[g]? = some (.cells (pre ++ (c ++ post)).toArray E)) (hp : pre.length = p) {j : Nat} (hj : j < c.length) (u : Value) : (w.setCell ⟨g, p + j, none⟩ u).heap[g]? = some (.cells (pre ++ (c.set j u ++ post)).toArray E) := by
  rw [heap_setCell_same w g _ _ E u h]
  congr 2
  apply Array.ext'
  simp only [Array.toList_setIfInBounds]
  rw [List.set_append_right _ _ (by omega), List.set_append_left _ _ (by omega), show p + j - pre.length = j by omega]
end Go.Proofs.Ytbkoddikfpkocaa

/- Arguments of kind Gs opened. Written by a program. -/
namespace Go.Proofs.Ytbkoddikfpkocaa
open Go.ChangeShapes Go.WideShapes Go.ChangeAt Go.RowKit
set_option linter.unusedVariables false
set_option maxRecDepth 100000

theorem opens_Gs : Opens 176 rGs := opens_struct3 Try.underlying176 (by kernel_rfl) rfl rfl rfl (by kernel_rfl) (by kernel_rfl) (by kernel_rfl) opens_I opens_II opens_I
abbrev kGs_in := agg_in rGs
theorem open_kGs_in {H : Type} {enc : TypeId × Value → H} {W : World} {d : DataW H} {ps : List MemPlace} {v : Value} (hv : Value.okWide Try.prog W .any 0 176 v) (h : DataW.Trod enc Try.prog W 0 (fun _ => true) true 176 v d ps) : kGs_in W v :=
  open_agg_in Try.underlying176 opens_Gs hv h

end Go.Proofs.Ytbkoddikfpkocaa

/- Contracts: whether an answer is valid. -/
namespace Go.Proofs.Ytbkoddikfpkocaa
open Go.RowKit
set_option linter.unusedVariables false
set_option linter.unusedSimpArgs false
set_option synthInstance.maxSize 2000
set_option synthInstance.maxHeartbeats 400000

/-- Columns: in range, ascending from p. -/
def colsFrom (n p : Int) : List Int → Bool
  | [] => true
  | v :: t => betw v 0 (n - 1) && decide (p < v) && colsFrom n v t
/-- Strictly ascending columns of so many. -/
def colsB (n : Int) (xs : List Int) : Bool := colsFrom n (-1) xs
theorem cols_at {n p : Int} {xs : List Int} {j : Nat} {x : Int} (hj : j < xs.length) (hx : xs.getD j 0 = x) : colsFrom n p (xs.drop j) = (betw x 0 (n - 1) && decide (p < x) && colsFrom n x (xs.drop (j + 1))) := by
  rw [drop_cons xs j hj, hx]; rfl
theorem cols_end {n p : Int} {xs : List Int} {j : Nat} (hj : xs.length ≤ j) : colsFrom n p (xs.drop j) = true := by
  rw [List.drop_eq_nil_of_le hj]; rfl
theorem betw_pos {x n : Int} (h : betw x 0 n = true) : 0 ≤ x := by
  simp only [betw, Bool.and_eq_true, decide_eq_true_eq] at h; omega
/-- What stands before place j. -/
def prevOf (xs : List Int) : Nat → Int
  | 0 => -1
  | j + 1 => xs.getD j 0
/-- Whether an answer is valid. -/
def validAn (a : DAn) : Bool := colsB 4 a.1 && rowsB a.1.length a.2 && ascB a.2

end Go.Proofs.Ytbkoddikfpkocaa

/- Contracts: whether a table is valid. -/
namespace Go.Proofs.Ytbkoddikfpkocaa
open Go.RowKit
set_option linter.unusedVariables false
set_option linter.unusedSimpArgs false
set_option synthInstance.maxSize 2000
set_option synthInstance.maxHeartbeats 400000

/-- Whether a table is valid. -/
def validT (t : DT) : Bool := nameB t.1 && (betw t.2.1 1 3 && (decide (t.2.2.length ≤ 8) && (rowsB t.2.1 t.2.2 && ascB t.2.2)))
theorem validT_rows {t : DT} (h : rowsB t.2.1 t.2.2 = false) : validT t = false := by simp [validT, h]
theorem validT_rest {t : DT} (h : rowsB t.2.1 t.2.2 = true) : validT t = (nameB t.1 && (betw t.2.1 1 3 && (decide (t.2.2.length ≤ 8) && ascB t.2.2))) := by simp [validT, h]

set_option maxHeartbeats 2000000 in
theorem validT_impl (cs : List Value) (x : DT) (w : World) (h : rT.rep w cs x) :
    Calls Try.prog 137 #[.agg cs.toArray] w fun e w' => e = .returned (.bool (validT x)) ∧ Below w.heap.size w w' := by
  obtain ⟨ub, un, uc, rfl, hs, hi, g1⟩ := rT_open h
  clear h
  obtain ⟨s, i, rows⟩ := x
  simp only at hs hi g1
  have t1 := rS_sl g1
  have hl1 := t1.len
  have hn1 := t1.small
  have HV := Lib.hid (show rowsB i rows = rowsB i (rows.drop 0) by simp)
  have hb0 : Below w.heap.size w w := Below.refl _ _
  go_enter Try.func137, Try.ntmps137
  obtain ⟨w1, hw1⟩ : ∃ W, W = w.alloc (.cells #[.string s, .int .i64 i, .slice ub un uc] 34) := ⟨_, rfl⟩
  have z1 : Below w.heap.size w w1 := by rw [hw1]; exact (Below.refl _ _).alloc (Nat.le_refl _) _
  have s1 : w1.heap.size = w.heap.size + 1 := by rw [hw1]; simp
  have hb1 := on hb0 z1
  have b_0 : w1.cell? ⟨w.heap.size, 0, none⟩ = some (.string s) := by rw [hw1]; exact box_cell (Below.refl _ _) rfl
  have b_1 : w1.cell? ⟨w.heap.size, 1, none⟩ = some (.int .i64 i) := by rw [hw1]; exact box_cell (Below.refl _ _) rfl
  have b_2 : w1.cell? ⟨w.heap.size, 2, none⟩ = some (.slice ub un uc) := by rw [hw1]; exact box_cell (Below.refl _ _) rfl
  have raw1_b_0 := b_0
  have raw1_b_1 := b_1
  have raw1_b_2 := b_2
  rw [hw1] at raw1_b_0 raw1_b_1 raw1_b_2
  go_wp2_with fail
  rw [← hw1]
  clear hw1
  clear raw1_b_0 raw1_b_1 raw1_b_2
  go_loopw [8] (fun k wr => ∃ j : Nat, j ≤ un ∧ k = .int .i64 j ∧ Hid (rowsB i rows = rowsB i (rows.drop j)) ∧ w1 = wr) (fun k _ => un - (intOf k).toNat)
  case atStart => exact ⟨0, Nat.zero_le _, rfl, HV.out, rfl⟩
  case round =>
    obtain ⟨j, hj, rfl, hE, rfl⟩ := hrel
    by_cases hlt : j < un
    · obtain ⟨b0, o0, r1, m1, q1, y, rfl, hc, hx, hi9, _⟩ := t1.row hlt
      have hclt : b0 < w.heap.size := cell_lt hc
      have c0 : w1.cell? ⟨b0, o0 + j, none⟩ = some (.slice r1 m1 q1) := (hb1.cell (p := ⟨b0, o0 + j, none⟩) hclt).trans hc
      have hcall := rowOk_any r1 m1 q1 y i _ (hi9.below hb1)
      obtain ⟨t, ht⟩ : ∃ t, t = rowB y i := ⟨_, rfl⟩
      rw [← ht] at hcall
      have HC := Lib.hid hcall
      have HA := Lib.hid (hE.out.trans (by rw [rowsB_at hx.out, ← ht]))
      clear t1 hl1 hx hcall ht hE HV hi9 hc
      go_wp2_with fail
      refine (HC.out).mono ?_
      rintro e w' ⟨rfl, rfl⟩
      cases t with
      | true =>
        have HE := Lib.hid (show rowsB i rows = rowsB i (rows.drop (j + 1)) by rw [HA.out]; simp)
        go_wp2_with fail
        go_roundw
        case rel => exact ⟨j + 1, by omega, by go_num, HE.out, trivial⟩
        case measure => simp [intOf]; omega
      | false =>
        have HE := Lib.hid (show validT (s, i, rows) = false from validT_rows (by rw [HA.out]; simp))
        go_wp2_with fail
        go_ret
        exact ⟨ret_bool HE.out.symm, hb1⟩
    · have HE : Hid (validT (s, i, rows) = (nameB s && (betw i 1 3 && (decide ((un : Int) ≤ 8) && ascB rows)))) := Lib.hid (by
        rw [validT_rest (show rowsB i rows = true by rw [hE.out, rowsB_end (by omega)])]
        simp only [hl1]
        congr 3
        rw [Bool.eq_iff_iff]; simp only [decide_eq_true_eq]; omega)
      have t2 := t1.below hb1
      clear hE HV hl1 t1
      go_wp2_with fail
      refine (nameOk_any _ _ hs).mono ?_
      rintro e w' ⟨rfl, rfl⟩
      obtain ⟨c1, hc1⟩ : ∃ c, c = nameB s := ⟨_, rfl⟩
      rw [← hc1] at HE ⊢
      clear hc1
      cases c1 with
      | false =>
        clear t2
        go_wp2_with fail
        go_ret
        exact ⟨ret_bool (by rw [HE.out]; rfl), hb1⟩
      | true =>
        go_wp2_with fail
        refine (within_any _ _ _ _).mono ?_
        rintro e w' ⟨rfl, rfl⟩
        obtain ⟨c2, hc2⟩ : ∃ c, c = betw i 1 3 := ⟨_, rfl⟩
        rw [← hc2] at HE ⊢
        clear hc2
        cases c2 with
        | false =>
          clear t2
          go_wp2_with fail
          go_ret
          exact ⟨ret_bool (by rw [HE.out]; rfl), hb1⟩
        | true =>
          by_cases h8 : (un : Int) ≤ 8
          · have HE2 := Lib.hid (show validT (s, i, rows) = ascB rows by rw [HE.out, decide_eq_true h8]; rfl)
            go_wp2_with fail
            refine (ascending_any _ _ _ _ _ t2).mono ?_
            rintro e w9 ⟨rfl, z9⟩
            replace z9 : Below w1.heap.size w1 w9 := z9.below _
            have s2 := z9.size
            have hb2 := on hb1 z9
            replace b_0 := (z9.cell (p := ⟨w.heap.size, 0, none⟩) (by simp only []; omega)).trans b_0
            replace b_1 := (z9.cell (p := ⟨w.heap.size, 1, none⟩) (by simp only []; omega)).trans b_1
            replace b_2 := (z9.cell (p := ⟨w.heap.size, 2, none⟩) (by simp only []; omega)).trans b_2
            clear t2
            go_wp2_with fail
            go_ret
            exact ⟨ret_bool HE2.out.symm, hb2⟩
          · have HE2 := Lib.hid (show validT (s, i, rows) = false by rw [HE.out, decide_eq_false h8]; rfl)
            clear t2
            go_wp2_with fail
            go_ret
            exact ⟨ret_bool HE2.out.symm, hb1⟩

set_option maxHeartbeats 2000000 in
theorem validT_spec (cs : List Value) (x : DT) (w : World) (h : rT.rep w cs x) :
    Calls Try.prog 27 #[.agg cs.toArray] w fun e w' => e = .returned (.bool (validT x)) ∧ Below w.heap.size w w' := by
  obtain ⟨ub, un, uc, rfl, hs, hi, g1⟩ := rT_open h
  clear h
  obtain ⟨s, i, rows⟩ := x
  simp only at hs hi g1
  have t1 := rS_sl g1
  have hl1 := t1.len
  have hn1 := t1.small
  have HV : Hid (validT (s, i, rows) = (nameB s && (betw i 1 3 && (decide ((un : Int) ≤ 8) && (rowsB i rows && ascB rows))))) := Lib.hid (by
    simp only [validT, hl1]
    congr 3
    rw [Bool.eq_iff_iff]; simp only [decide_eq_true_eq]; omega)
  have hb0 : Below w.heap.size w w := Below.refl _ _
  go_enter Try.func27, Try.ntmps27
  obtain ⟨w1, hw1⟩ : ∃ W, W = w.alloc (.cells #[.string s, .int .i64 i, .slice ub un uc] 34) := ⟨_, rfl⟩
  have z1 : Below w.heap.size w w1 := by rw [hw1]; exact (Below.refl _ _).alloc (Nat.le_refl _) _
  have s1 : w1.heap.size = w.heap.size + 1 := by rw [hw1]; simp
  have hb1 := on hb0 z1
  have b_0 : w1.cell? ⟨w.heap.size, 0, none⟩ = some (.string s) := by rw [hw1]; exact box_cell (Below.refl _ _) rfl
  have b_1 : w1.cell? ⟨w.heap.size, 1, none⟩ = some (.int .i64 i) := by rw [hw1]; exact box_cell (Below.refl _ _) rfl
  have b_2 : w1.cell? ⟨w.heap.size, 2, none⟩ = some (.slice ub un uc) := by rw [hw1]; exact box_cell (Below.refl _ _) rfl
  have raw1_b_0 := b_0
  have raw1_b_1 := b_1
  have raw1_b_2 := b_2
  rw [hw1] at raw1_b_0 raw1_b_1 raw1_b_2
  go_wp2_with fail
  rw [← hw1]
  clear hw1
  clear raw1_b_0 raw1_b_1 raw1_b_2
  refine (l4Name_any _ _ hs).mono ?_
  rintro e w' ⟨rfl, rfl⟩
  obtain ⟨c1, hc1⟩ : ∃ c, c = nameB s := ⟨_, rfl⟩
  rw [← hc1] at HV ⊢
  clear hc1
  cases c1 with
  | false =>
    clear t1 hl1
    go_wp2_with fail
    go_ret
    exact ⟨ret_bool (by rw [HV.out]; rfl), hb1⟩
  | true =>
    go_wp2_with fail
    refine (l1In_any _ _ _ _).mono ?_
    rintro e w' ⟨rfl, rfl⟩
    obtain ⟨c2, hc2⟩ : ∃ c, c = betw i 1 3 := ⟨_, rfl⟩
    rw [← hc2] at HV ⊢
    clear hc2
    cases c2 with
    | false =>
      clear t1 hl1
      go_wp2_with fail
      go_ret
      exact ⟨ret_bool (by rw [HV.out]; rfl), hb1⟩
    | true =>
      by_cases h8 : (un : Int) ≤ 8
      case neg =>
        have HE2 := Lib.hid (show validT (s, i, rows) = false by rw [HV.out, decide_eq_false h8]; rfl)
        have h8' : 8 < (un : Int) := by omega
        clear t1 hl1
        go_wp2_with fail
        go_ret
        exact ⟨ret_bool HE2.out.symm, hb1⟩
      have HW : Hid (validT (s, i, rows) = (rowsB i (rows.drop 0) && ascB (rows.drop (0 - 1)))) := Lib.hid (by rw [HV.out, decide_eq_true h8]; rfl)
      have h8' : ¬ 8 < (un : Int) := by omega
      go_wp2_with fail
      go_loopw [3] (fun k wr => ∃ j : Nat, j ≤ un ∧ k = .int .i64 j ∧ Hid (validT (s, i, rows) = (rowsB i (rows.drop j) && ascB (rows.drop (j - 1)))) ∧ Drew w1 wr) (fun k _ => un - (intOf k).toNat)
      case atStart => exact ⟨0, Nat.zero_le _, rfl, HW.out, Drew.refl _⟩
      case round =>
        obtain ⟨j, hj, rfl, hE, hdr⟩ := hrel
        have hlc := hdr
        replace hdr : Below w1.heap.size w1 wr := hdr.below _
        have s2 := hdr.size
        have hb2 := on hb1 hdr
        replace b_0 := (hdr.cell (p := ⟨w.heap.size, 0, none⟩) (by simp only []; omega)).trans b_0
        replace b_1 := (hdr.cell (p := ⟨w.heap.size, 1, none⟩) (by simp only []; omega)).trans b_1
        replace b_2 := (hdr.cell (p := ⟨w.heap.size, 2, none⟩) (by simp only []; omega)).trans b_2
        by_cases hlt : j < un
        · obtain ⟨b0, o0, r1, m1, q1, y, rfl, hc, hx, hi9, _⟩ := t1.row hlt
          have hclt : b0 < w.heap.size := cell_lt hc
          have c0 : wr.cell? ⟨b0, o0 + j, none⟩ = some (.slice r1 m1 q1) := (hb2.cell (p := ⟨b0, o0 + j, none⟩) hclt).trans hc
          have hcall := fun q => l4Row_any r1 m1 q1 y i (wr.drewN q) ((hi9.below hb2).drewN q)
          obtain ⟨t, ht⟩ : ∃ t, t = rowB y i := ⟨_, rfl⟩
          rw [← ht] at hcall
          have HC := Lib.hid hcall
          have HA := Lib.hid (hE.out.trans (by rw [rowsB_at hx.out, ← ht]))
          clear hcall ht hE HW HV
          cases t with
          | false =>
            have HE := Lib.hid (show validT (s, i, rows) = false by rw [HA.out]; simp)
            clear t1 hl1 hx hi9 hc
            go_wp2_with fail
            go_quiet ((go_at_call 103; exact quiet_same (HC.out _)))
            go_wp2_with fail
            go_ret
            exact ⟨ret_bool HE.out.symm, onD hb2 ⟨_, rfl⟩⟩
          | true =>
            by_cases hj0 : j = 0
            · subst hj0
              have HE := Lib.hid (show validT (s, i, rows) = (rowsB i (rows.drop (0 + 1)) && ascB (rows.drop (0 + 1 - 1))) by rw [HA.out]; simp)
              have c0' : wr.cell? ⟨b0, o0, none⟩ = some (.slice r1 m1 q1) := c0
              clear t1 hl1 hx hi9 hc
              go_wp2_with fail
              go_quiet ((go_at_call 103; exact quiet_same (HC.out _)))
              go_wp2_with fail
              go_roundw
              case rel => exact ⟨1, by omega, rfl, HE.out, hlc.step _⟩
              case measure => simp [intOf]; omega
            obtain ⟨i', rfl⟩ : ∃ i, j = i + 1 := ⟨j - 1, by omega⟩
            obtain ⟨b9, o9, r2, m2, q2, z, hb9, hcy, hy, hi', _⟩ := t1.row (show i' < un by omega)
            simp at hb9
            obtain ⟨rfl, rfl⟩ := hb9
            have cy : wr.cell? ⟨b0, o0 + i', none⟩ = some (.slice r2 m2 q2) := (hb2.cell (p := ⟨b0, o0 + i', none⟩) hclt).trans hcy
            have hi63 : IntKind.i64.wrap (i' : Int) = (i' : Int) := IntWalk.i64_in _ (by omega)
            have hcall := fun q => cmp_spec r2 r1 m2 m1 q2 q1 z y (wr.drewN q) ((hi'.below hb2).drewN q) ((hi9.below hb2).drewN q)
            obtain ⟨c, hcc⟩ : ∃ c, c = cmpRows z y := ⟨_, rfl⟩
            rw [← hcc] at hcall
            have HA2 : Hid (validT (s, i, rows) = (rowsB i (rows.drop (i' + 1 + 1)) && (decide (c < 0) && ascB (rows.drop (i' + 1))))) := Lib.hid (by
              rw [HA.out, show i' + 1 - 1 = i' by omega, ascB_at hy.out hx.out, hcc]; rfl)
            have HD := Lib.hid hcall
            clear t1 hl1 hx hy hi9 hi' hc hcy hcall hcc HA hj0
            by_cases h0 : c < 0
            · have HE := Lib.hid (show validT (s, i, rows) = (rowsB i (rows.drop (i' + 1 + 1)) && ascB (rows.drop (i' + 1 + 1 - 1))) by rw [HA2.out, decide_eq_true h0]; simp)
              go_wp2_with fail
              go_quiet ((first | (go_at_call 103; exact quiet_same (HC.out _)) | (go_at_call 104; exact quiet_drew (HD.out _))))
              clear hi63
              go_wp2_with fail
              go_roundw
              case rel => exact ⟨i' + 1 + 1, by omega, by go_num, HE.out, hlc.step _⟩
              case measure => simp [intOf]; omega
            · have HE := Lib.hid (show validT (s, i, rows) = false by rw [HA2.out]; simp [h0])
              go_wp2_with fail
              go_quiet ((first | (go_at_call 103; exact quiet_same (HC.out _)) | (go_at_call 104; exact quiet_drew (HD.out _))))
              clear hi63
              go_wp2_with fail
              go_ret
              exact ⟨ret_bool HE.out.symm, onD hb2 ⟨_, rfl⟩⟩
        · have HE : Hid (validT (s, i, rows) = true) := Lib.hid (by
            rw [hE.out, rowsB_end (by omega), ascB_end (by omega)]; rfl)
          clear hE HW hl1 t1
          go_wp2_with fail
          go_ret
          exact ⟨ret_bool HE.out.symm, hb2⟩

end Go.Proofs.Ytbkoddikfpkocaa

/- A slice that a region which draws its order appends to. -/
namespace Go.Proofs.Ytbkoddikfpkocaa
open Go.RowKit
set_option linter.unusedVariables false
set_option linter.unusedSimpArgs false

/-- append of one element, run. -/
theorem run_acc {α : Type} {T E size bytes : Nat} {z : Value} (hT : Try.prog.underlying T = some (.slice E)) (hE : (Try.prog.info? E).map (fun i => (i.zero, i.size, i.bytes)) = some (some z, size, bytes)) (hz : z.cells.size = size) (hpos : 0 < size) (hby : bytes ≤ 1000)
    {o' : OS α} (hsz : o'.size = size) {la lo S hi9 h1 h2 : Nat} {W0 W W1 : World} (ty : TypeId)
    (v : Value) (xs : List α) (c : List Value) (y : α)
    (hown : Acc E o' la S hi9 W v xs) (hy : Own o' h1 h2 W c y) (hone : ∀ u ∈ c, u.oneCell' = true) (hS1 : S ≤ h1) (hhi : hi9 ≤ h1) (hh : h1 ≤ h2) (hW : h2 ≤ W.heap.size) (ht : Turn lo (lo + 1) W0 W) (hS : W0.heap.size = S) (hla : la = lo ∨ S ≤ la) (hlW : la ≤ W.heap.size) (hn : xs.length ≤ 100000000)
    (hW1 : W1 = W.alloc (.cells c.toArray E)) :
    ∃ v' w', (Builtin.append_ #[T, T] ty #[v, .slice (some ⟨W.heap.size, 0, none⟩) 1 1]).run Try.prog W1 = .ok v' w' ∧ Acc E o' la S w'.heap.size w' v' (xs ++ [y]) ∧ Turn lo (lo + 1) W0 w' ∧ W.heap.size < w'.heap.size ∧ (∀ k, k < S → k ≠ la → w'.heap[k]? = W.heap[k]?) := by
  subst hW1
  obtain ⟨i, hi, hz0, hz1, hz2⟩ := info_parts hE
  obtain ⟨fp, ⟨v1, css, fps, hv, rfl, hrow, hrows⟩, hnd, hlim⟩ := hown
  obtain ⟨fy, hyr, hynd, hylim⟩ := hy
  have hts := ht.size
  simp at hv
  subst hv
  have hclen : c.length = size := by rw [← hsz]; exact o'.len hyr
  rw [hsz] at hrow
  have hnl := List.nodup_append.1 hnd
  have hnew : Below W.heap.size W (W.alloc (.cells c.toArray E)) := (Below.refl _ _).alloc (Nat.le_refl _) _
  have hrow1 := own_below hrow hnew (Nat.le_refl _)
  have hlt : ∀ k ∈ bl v ++ fps.flatten, k < W.heap.size := fun k hk => by have := (hlim k hk).2; omega
  have hby2 : (xs.length + 1) * bytes ≤ 140737488355328 := Nat.le_trans (Nat.mul_le_mul (show xs.length + 1 ≤ 100000001 by omega) hby) (by decide)
  have hfy : ∀ k ∈ fy, k ∉ bl v ++ fps.flatten := fun k hk hm => by have := (hlim k hm).2; have := hylim k hk; omega
  obtain ⟨v', w', hrun, h3, h4, _, h5⟩ := run_append_own_at (P := Try.prog) (W.alloc (.cells c.toArray E)) 0 T ty E i z size bytes hT hi hz0 hz1 hz2 hz hpos v xs.length css.flatten hrow1 ⟨W.heap.size, 0, none⟩ 1 1 c (by omega) (fresh_cells W c E) hone (by unfold maxLen; omega) hby2 (Nat.zero_le _)
  have hsz' := h4.size
  simp at hsz'
  have hv' : ∀ k ∈ bl v', k ∈ bl v ∨ k = W.heap.size + 1 := by
    intro k hk
    have hk' : v'.ownBlock = some k := by simpa [bl] using hk
    rcases h5 with h5 | h5
    · left; simp only [bl]; rw [← h5, hk']; simp
    · right
      rw [h5] at hk'
      simp at hk'
      omega
  have hkeep : ∀ k, k < W.heap.size → k ∉ bl v → w'.heap[k]? = W.heap[k]? := by
    intro k hk hn
    rw [h4.block k (by simp; omega) (fun e => hn (by simp only [bl]; rw [← e]; simp)), Below.heap_alloc W _ k hk]
  refine ⟨v', w', hrun, ⟨bl v' ++ (fps ++ [fy]).flatten, ⟨v', css ++ [c], fps ++ [fy], rfl, rfl, ?_, ?_⟩, ?_, ?_⟩, ?_, by omega, fun k hk hx => hkeep k (by omega) (fun hb => by have := hlim k (List.mem_append_left _ hb); omega)⟩
  · rw [hsz]; simpa using h3
  · have hk2 : ∀ k, k ∈ fps.flatten ++ fy → w'.heap[k]? = W.heap[k]? := by
      intro k hk
      rcases List.mem_append.1 hk with hk | hk
      · exact hkeep k (hlt k (List.mem_append_right _ hk)) (fun hb => hnl.2.2 k hb k hk rfl)
      · exact hkeep k (by have := hylim k hk; omega) (fun hb => hfy k hk (List.mem_append_left _ hb))
    exact o'.rows_snoc (o'.frame hyr (fun k hk => hk2 k (List.mem_append_right _ hk))) (o'.rows_frame hrows (fun k hk => hk2 k (List.mem_append_left _ hk)))
  · rw [List.flatten_append, List.nodup_append]
    refine ⟨by unfold bl; cases v'.ownBlock <;> simp, ?_, ?_⟩
    · rw [List.nodup_append]
      refine ⟨hnl.2.1, by simpa using hynd, ?_⟩
      intro p hp q hq e
      subst e
      exact hfy p (by simpa using hq) (List.mem_append_right _ hp)
    · intro p hp q hq e
      subst e
      rcases hv' p hp with h8 | h8
      · rcases List.mem_append.1 hq with hq | hq
        · exact hnl.2.2 p h8 p hq rfl
        · exact hfy p (by simpa using hq) (List.mem_append_left _ h8)
      · rcases List.mem_append.1 hq with hq | hq
        · have := hlt p (List.mem_append_right _ hq); omega
        · have := hylim p (by simpa using hq); omega
  · intro k hk
    rcases List.mem_append.1 hk with hk | hk
    · rcases hv' k hk with h8 | h8
      · have := hlim k (List.mem_append_left _ h8); omega
      · have h9 := (h3.lt k (by simpa [bl] using hk)).2
        omega
    · simp only [List.flatten_append, List.mem_append] at hk
      rcases hk with hk | hk
      · have := hlim k (List.mem_append_right _ hk); omega
      · have := hylim k (by simpa using hk); omega
  · refine ⟨h4.os.trans ht.os, h4.tape.trans ht.tape, h4.output.trans ht.output, by omega, fun k hk hx => ?_⟩
    rw [hkeep k (by omega) (fun hb => ?_)]
    · exact ht.block k hk hx
    · have := hlim k (List.mem_append_left _ hb); omega

theorem Turn.setIn {lo hi : Nat} {a w : World} (h : Turn lo hi a w) {p : Addr} (h1 : lo ≤ p.block) (h2 : p.block < hi) (u : Value) : Turn lo hi a (w.setCell p u) := by
  have hb := Below.setCell (B := p.block) (Below.refl _ w) (Nat.le_refl _) u
  exact ⟨hb.os.trans h.os, hb.tape.trans h.tape, hb.output.trans h.output, Nat.le_trans h.size hb.size, fun k hk hx => by rw [Below.heap_setCell _ _ _ _ (by omega)]; exact h.block k hk hx⟩
theorem Acc.setOut {α : Type} {E : TypeId} {o : OS α} {lo S hi hi' : Nat} {w : World} {v : Value} {xs : List α} (h : Acc E o lo S hi w v xs) {p : Addr} (u : Value) (h1 : p.block < S) (h2 : p.block ≠ lo) (hh : hi ≤ hi') : Acc E o lo S hi' (w.setCell p u) v xs := by
  obtain ⟨fp, h3, h4, h5⟩ := h
  exact ⟨fp, (O.slice E o).frame h3 (fun k hk => Below.heap_setCell _ _ _ _ (by have := h5 k hk; omega)), h4, fun k hk => by have := h5 k hk; omega⟩

end Go.Proofs.Ytbkoddikfpkocaa

/- Contracts: columns that are strictly ascending columns of a table. -/
namespace Go.Proofs.Ytbkoddikfpkocaa
open Go.RowKit
set_option linter.unusedVariables false
set_option linter.unusedSimpArgs false
set_option synthInstance.maxSize 2000
set_option synthInstance.maxHeartbeats 400000

set_option maxHeartbeats 2000000 in
theorem columnsOk_any (a : Option Addr) (n cap : Nat) (xs : List Int) (m : Int) (w : World) (h : Ints w a n xs) (hm : I64 m) (hm1 : -9223372036854775808 < m) :
    Calls Try.prog 138 #[.slice a n cap, .int .i64 m] w fun e w' => e = .returned (.bool (colsB m xs)) ∧ w = w' := by
  have hl := h.len
  have hn := h.small
  have HV : Hid (colsB m xs = colsFrom m (prevOf xs 0) (xs.drop 0)) := Lib.hid (by simp [colsB, prevOf])
  obtain ⟨hm2, hm3⟩ := hm
  have hwm : IntKind.i64.wrap (m - 1) = m - 1 := IntWalk.i64_in _ (by omega)
  have hb0 : Below w.heap.size w w := Below.refl _ _
  go_enter Try.func138, Try.ntmps138
  go_wp2_with fail
  go_loopw [9] (fun k wr => ∃ j : Nat, j ≤ n ∧ k = .int .i64 j ∧ Hid (colsB m xs = colsFrom m (prevOf xs j) (xs.drop j)) ∧ w = wr) (fun k _ => n - (intOf k).toNat)
  case atStart => exact ⟨0, Nat.zero_le _, rfl, HV.out, rfl⟩
  case round =>
    obtain ⟨j, hj, rfl, hE, rfl⟩ := hrel
    by_cases hlt : j < n
    · obtain ⟨b0, o0, x, rfl, hc, hx, _, _⟩ := h.get hlt
      have c0_lt : b0 < w.heap.size := cell_lt hc
      have c0 : w.cell? ⟨b0, o0 + j, none⟩ = some (.int .i64 x) := (hb0.cell (p := ⟨b0, o0 + j, none⟩) c0_lt).trans hc
      have HA := Lib.hid (hE.out.trans (by rw [cols_at (by omega) hx.out]))
      clear hE HV hl
      have hcall := within_any x 0 (m - 1) w
      by_cases hb : betw x 0 (m - 1) = true
      case neg =>
        replace hb : betw x 0 (m - 1) = false := by simpa using hb
        have HE := Lib.hid (show colsB m xs = false by rw [HA.out]; simp [hb])
        rw [hb] at hcall
        have HC := Lib.hid hcall
        clear h hcall hb
        go_wp2_with fail
        refine (HC.out).mono ?_
        rintro e w' ⟨rfl, rfl⟩
        go_wp2_with fail
        go_ret
        exact ⟨ret_bool HE.out.symm, rfl⟩
      have hx0 := betw_pos hb
      have H0 := Lib.hid hb
      rw [hb] at hcall
      have HC := Lib.hid hcall
      clear hb hcall
      by_cases hj0 : j = 0
      · subst hj0
        have HE := Lib.hid (show colsB m xs = colsFrom m (prevOf xs (0 + 1)) (xs.drop (0 + 1)) by
          rw [HA.out, show prevOf xs (0 + 1) = x from hx.out, show betw x 0 (m - 1) = true from H0.out, show decide (prevOf xs 0 < x) = true from decide_eq_true (show (-1 : Int) < x by omega)]; simp)
        have c0' : w.cell? ⟨b0, o0, none⟩ = some (.int .i64 x) := c0
        clear h hx HA
        go_wp2_with fail
        refine (HC.out).mono ?_
        rintro e w' ⟨rfl, rfl⟩
        go_wp2_with fail
        go_roundw
        case rel => exact ⟨1, by omega, rfl, HE.out, trivial⟩
        case measure => simp [intOf]; omega
      obtain ⟨i, rfl⟩ : ∃ i, j = i + 1 := ⟨j - 1, by omega⟩
      obtain ⟨b9, o9, y, hb9, hcy, hy, _, _⟩ := h.get (show i < n by omega)
      simp at hb9
      obtain ⟨rfl, rfl⟩ := hb9
      have cy_lt : b0 < w.heap.size := cell_lt hcy
      have cy : w.cell? ⟨b0, o0 + i, none⟩ = some (.int .i64 y) := (hb0.cell (p := ⟨b0, o0 + i, none⟩) cy_lt).trans hcy
      have hp : prevOf xs (i + 1) = y := hy.out
      rw [hp] at HA
      by_cases hxy : y < x
      · have HE := Lib.hid (show colsB m xs = colsFrom m (prevOf xs (i + 1 + 1)) (xs.drop (i + 1 + 1)) by
          rw [HA.out, show prevOf xs (i + 1 + 1) = x from hx.out, show betw x 0 (m - 1) = true from H0.out, decide_eq_true hxy]; simp)
        clear h hx HA hp hj0 hc hcy
        go_wp2_with fail
        refine (HC.out).mono ?_
        rintro e w' ⟨rfl, rfl⟩
        go_wp2_with fail
        go_roundw
        case rel => exact ⟨i + 1 + 1, by omega, by go_num, HE.out, trivial⟩
        case measure => simp [intOf]; omega
      · have HE := Lib.hid (show colsB m xs = false by rw [HA.out]; simp [hxy])
        clear h hx HA hp hj0 hc hcy
        go_wp2_with fail
        refine (HC.out).mono ?_
        rintro e w' ⟨rfl, rfl⟩
        go_wp2_with fail
        go_ret
        exact ⟨ret_bool HE.out.symm, rfl⟩
    · have HW : Hid (colsB m xs = true) := Lib.hid (by rw [hE.out, cols_end (by omega)])
      clear hE HV h hl
      go_wp2_with fail
      go_ret
      exact ⟨ret_bool HW.out.symm, rfl⟩

/-- Columns of a valid table. -/
def colsT (t : DT) (xs : List Int) : Bool := colsB t.2.1 xs && validT t

set_option maxHeartbeats 2000000 in
theorem l10Cols_any (cs : List Value) (t : DT) (a : Option Addr) (n cap : Nat) (xs : List Int) (w : World) (ht : rT.rep w cs t) (h : Ints w a n xs) :
    Calls Try.prog 133 #[.agg cs.toArray, .slice a n cap] w fun e w' => e = .returned (.bool (colsT t xs)) ∧ Below w.heap.size w w' := by
  obtain ⟨ub, un, uc, rfl, hs, hi, g1⟩ := rT_open ht
  have hcv := fun W (hW : Below w.heap.size w W) => validT_spec _ t W (rT.mono ht hW)
  obtain ⟨s, m, rows⟩ := t
  simp only at hs hi g1 hcv
  have HVT := Lib.hid hcv
  have hl := h.len
  have hn := h.small
  obtain ⟨V, hV⟩ : ∃ V, V = validT (s, m, rows) := ⟨_, rfl⟩
  rw [← hV] at HVT
  obtain ⟨M, hM⟩ : ∃ M, IntKind.i64.wrap (m - 1) = M := ⟨_, rfl⟩
  have HV : Hid (colsT (s, m, rows) xs = (colsFrom (M + 1) (prevOf xs 0) (xs.drop 0) && V)) := Lib.hid (by
    by_cases hmin : m = -9223372036854775808
    · have hVf : V = false := by rw [hV, validT]; subst hmin; simp [betw]
      simp [colsT, ← hV, hVf]
    · have : M + 1 = m := by rw [← hM, IntWalk.i64_in _ (by unfold I64 at hi; omega)]; omega
      rw [this]; simp [colsT, colsB, prevOf, hV])
  clear ht hcv hV g1 hs hi
  have Hw := Lib.hid hM
  have hb0 : Below w.heap.size w w := Below.refl _ _
  go_enter Try.func133, Try.ntmps133
  obtain ⟨w1, hw1⟩ : ∃ W, W = w.alloc (.cells #[.string s, .int .i64 m, .slice ub un uc] 34) := ⟨_, rfl⟩
  have z1 : Below w.heap.size w w1 := by rw [hw1]; exact (Below.refl _ _).alloc (Nat.le_refl _) _
  have s1 : w1.heap.size = w.heap.size + 1 := by rw [hw1]; simp
  have hb1 := on hb0 z1
  have b_0 : w1.cell? ⟨w.heap.size, 0, none⟩ = some (.string s) := by rw [hw1]; exact box_cell (Below.refl _ _) rfl
  have b_1 : w1.cell? ⟨w.heap.size, 1, none⟩ = some (.int .i64 m) := by rw [hw1]; exact box_cell (Below.refl _ _) rfl
  have b_2 : w1.cell? ⟨w.heap.size, 2, none⟩ = some (.slice ub un uc) := by rw [hw1]; exact box_cell (Below.refl _ _) rfl
  have raw1_b_0 := b_0
  have raw1_b_1 := b_1
  have raw1_b_2 := b_2
  rw [hw1] at raw1_b_0 raw1_b_1 raw1_b_2
  go_wp2_with fail
  rw [← hw1]
  clear hw1
  clear raw1_b_0 raw1_b_1 raw1_b_2
  go_loopw [5] (fun k wr => ∃ j : Nat, j ≤ n ∧ k = .int .i64 j ∧ Hid (colsT (s, m, rows) xs = (colsFrom (M + 1) (prevOf xs j) (xs.drop j) && V)) ∧ Drew w1 wr) (fun k _ => n - (intOf k).toNat)
  case atStart => exact ⟨0, Nat.zero_le _, rfl, HV.out, Drew.refl _⟩
  case round =>
    obtain ⟨j, hj, rfl, hE, hdr⟩ := hrel
    have hlc := hdr
    replace hdr : Below w1.heap.size w1 wr := hdr.below _
    have s2 := hdr.size
    have hb2 := on hb1 hdr
    replace b_0 := (hdr.cell (p := ⟨w.heap.size, 0, none⟩) (by simp only []; omega)).trans b_0
    replace b_1 := (hdr.cell (p := ⟨w.heap.size, 1, none⟩) (by simp only []; omega)).trans b_1
    replace b_2 := (hdr.cell (p := ⟨w.heap.size, 2, none⟩) (by simp only []; omega)).trans b_2
    by_cases hlt : j < n
    · obtain ⟨b0, o0, x, rfl, hc, hx, _, _⟩ := h.get hlt
      have c0_lt : b0 < w.heap.size := cell_lt hc
      have c0 : wr.cell? ⟨b0, o0 + j, none⟩ = some (.int .i64 x) := (hb2.cell (p := ⟨b0, o0 + j, none⟩) c0_lt).trans hc
      have HA := Lib.hid (hE.out.trans (by rw [cols_at (by omega) hx.out, show M + 1 - 1 = M by omega]))
      clear hE HV hl
      have hcall := fun q => l1In_any x 0 M (wr.drewN q)
      by_cases hb : betw x 0 M = true
      case neg =>
        replace hb : betw x 0 M = false := by simpa using hb
        have HE := Lib.hid (show colsT (s, m, rows) xs = false by rw [HA.out]; simp [hb])
        rw [hb] at hcall
        have HC := Lib.hid hcall
        clear h hb hcall
        go_wp2_with fail
        go_quiet ((go_at_call 98; exact quiet_same (HC.out _)))
        go_wp2_with fail
        go_ret
        exact ⟨ret_bool HE.out.symm, onD hb2 ⟨_, rfl⟩⟩
      have hx0 := betw_pos hb
      have H0 := Lib.hid hb
      rw [hb] at hcall
      have HC := Lib.hid hcall
      clear hb hcall
      by_cases hj0 : j = 0
      · subst hj0
        have HE := Lib.hid (show colsT (s, m, rows) xs = (colsFrom (M + 1) (prevOf xs (0 + 1)) (xs.drop (0 + 1)) && V) by
          rw [HA.out, show prevOf xs (0 + 1) = x from hx.out, H0.out, show decide (prevOf xs 0 < x) = true from decide_eq_true (show (-1 : Int) < x by omega)]; simp)
        have c0' : wr.cell? ⟨b0, o0, none⟩ = some (.int .i64 x) := c0
        clear h hx HA
        go_wp2_with fail
        go_quiet ((go_at_call 98; exact quiet_same (HC.out _)))
        go_wp2_with fail
        go_roundw
        case rel => exact ⟨1, by omega, rfl, HE.out, hlc.step _⟩
        case measure => simp [intOf]; omega
      obtain ⟨i, rfl⟩ : ∃ i, j = i + 1 := ⟨j - 1, by omega⟩
      obtain ⟨b9, o9, y, hb9, hcy, hy, _, _⟩ := h.get (show i < n by omega)
      simp at hb9
      obtain ⟨rfl, rfl⟩ := hb9
      have cy_lt : b0 < w.heap.size := cell_lt hcy
      have cy : wr.cell? ⟨b0, o0 + i, none⟩ = some (.int .i64 y) := (hb2.cell (p := ⟨b0, o0 + i, none⟩) cy_lt).trans hcy
      have hp : prevOf xs (i + 1) = y := hy.out
      rw [hp] at HA
      have hi63 : IntKind.i64.wrap (i : Int) = (i : Int) := IntWalk.i64_in _ (by omega)
      by_cases hxy : y < x
      · have HE := Lib.hid (show colsT (s, m, rows) xs = (colsFrom (M + 1) (prevOf xs (i + 1 + 1)) (xs.drop (i + 1 + 1)) && V) by
          rw [HA.out, show prevOf xs (i + 1 + 1) = x from hx.out, H0.out, decide_eq_true hxy]; simp)
        clear h hx HA hp hj0 hc hcy
        go_wp2_with fail
        go_quiet ((go_at_call 98; exact quiet_same (HC.out _)))
        clear hi63
        go_wp2_with fail
        go_roundw
        case rel => exact ⟨i + 1 + 1, by omega, by go_num, HE.out, hlc.step _⟩
        case measure => simp [intOf]; omega
      · have HE := Lib.hid (show colsT (s, m, rows) xs = false by rw [HA.out]; simp [hxy])
        clear h hx HA hp hj0 hc hcy
        go_wp2_with fail
        go_quiet ((go_at_call 98; exact quiet_same (HC.out _)))
        clear hi63
        go_wp2_with fail
        go_ret
        exact ⟨ret_bool HE.out.symm, onD hb2 ⟨_, rfl⟩⟩
    · have HW : Hid (colsT (s, m, rows) xs = V) := Lib.hid (by rw [hE.out, cols_end (by omega)]; simp)
      clear hE HV h hl
      go_wp2_with fail
      refine (HVT.out _ hb2).mono ?_
      rintro e w9 ⟨rfl, z9⟩
      have s3 := z9.size
      have hb3 := on hb2 z9
      replace b_0 := (z9.cell (p := ⟨w.heap.size, 0, none⟩) (by simp only []; omega)).trans b_0
      replace b_1 := (z9.cell (p := ⟨w.heap.size, 1, none⟩) (by simp only []; omega)).trans b_1
      replace b_2 := (z9.cell (p := ⟨w.heap.size, 2, none⟩) (by simp only []; omega)).trans b_2
      go_wp2_with fail
      go_ret
      exact ⟨ret_bool HW.out.symm, hb3⟩

end Go.Proofs.Ytbkoddikfpkocaa

/- Plain: neighbours that are equal, one of them alone: as the library's CompactFunc goes. -/
namespace Go.Proofs.Ytbkoddikfpkocaa
open Go.RowKit
set_option linter.unusedVariables false
set_option linter.unusedSimpArgs false

/-- Whether place p is kept: the first, or another key than the place before it. -/
def keepAt {α : Type} (key : α → List Int) (d : List α) (p : Nat) : Bool :=
  match d[p]?, d[p - 1]? with
  | some x, some y => decide (p = 0) || !decide (key x = key y)
  | _, _ => true
/-- What is kept of the first p. -/
def dedTo {α : Type} (key : α → List Int) (d : List α) : Nat → List α
  | 0 => []
  | p + 1 => dedTo key d p ++ (if keepAt key d p then d[p]?.toList else [])
theorem dedTo_sub {α : Type} (key : α → List Int) (d : List α) : ∀ p, (dedTo key d p).Sublist (d.take p)
  | 0 => by simp [dedTo]
  | p + 1 => by
    rw [dedTo, List.take_add_one]
    refine (dedTo_sub key d p).append ?_
    split
    · exact List.Sublist.refl _
    · exact List.nil_sublist _
theorem dedTo_len {α : Type} (key : α → List Int) (d : List α) (p : Nat) : (dedTo key d p).length ≤ p := by
  have h1 := (dedTo_sub key d p).length_le
  have h2 := List.length_take_le p d
  omega
theorem dedTo_keep {α : Type} {key : α → List Int} {d : List α} {p : Nat} {x : α} (hx : d[p]? = some x) (h : keepAt key d p = true) : dedTo key d (p + 1) = dedTo key d p ++ [x] := by
  rw [dedTo, h, if_pos rfl, hx]; rfl
theorem dedTo_skip {α : Type} {key : α → List Int} {d : List α} {p : Nat} (h : keepAt key d p = false) : dedTo key d (p + 1) = dedTo key d p := by
  rw [dedTo, h]; simp
theorem keepAt_at {α : Type} {key : α → List Int} {d : List α} {p : Nat} {x y : α} (hx : d[p + 1]? = some x) (hy : d[p]? = some y) : keepAt key d (p + 1) = !decide (key x = key y) := by
  simp [keepAt, hx, hy]
theorem keepAt_zero {α : Type} {key : α → List Int} {d : List α} : keepAt key d 0 = true := by
  unfold keepAt; cases d[0]? <;> simp
theorem dedTo_all {α : Type} {key : α → List Int} {d : List α} : ∀ {p : Nat}, (∀ j, j < p → keepAt key d j = true) → dedTo key d p = d.take p
  | 0, _ => by simp [dedTo]
  | p + 1, h => by
    rw [dedTo, dedTo_all fun j hj => h j (by omega), h p (by omega), if_pos rfl, List.take_add_one]
/-- What CompactFunc's cells hold when p places have been looked at. -/
def dedRow {α : Type} (key : α → List Int) (d : List α) (p : Nat) : List α := dedTo key d p ++ d.drop (dedTo key d p).length
theorem dedRow_len {α : Type} {key : α → List Int} {d : List α} {p : Nat} (hp : p ≤ d.length) : (dedRow key d p).length = d.length := by
  have := dedTo_len key d p
  simp [dedRow]; omega
theorem dedRow_get {α : Type} {key : α → List Int} {d : List α} {p j : Nat} (h : (dedTo key d p).length ≤ j) : (dedRow key d p)[j]? = d[j]? := by
  rw [dedRow, List.getElem?_append_right h, List.getElem?_drop]; congr 1; omega
theorem dedRow_set {α : Type} {key : α → List Int} {d : List α} {p : Nat} {x : α} (hx : d[p]? = some x) (h : keepAt key d p = true) : (dedRow key d p).set (dedTo key d p).length x = dedRow key d (p + 1) := by
  have hp := (List.getElem?_eq_some_iff.1 hx).1
  have hl := dedTo_len key d p
  rw [dedRow, dedRow, dedTo_keep hx h, List.set_append_right _ _ (Nat.le_refl _), Nat.sub_self]
  rw [List.drop_eq_getElem_cons (by omega), List.set_cons_zero]
  simp
/-- Its keys are what 'dedup' leaves of the keys. -/
def lastOf (p : List Int) : List (List Int) → List Int
  | [] => p
  | y :: t => lastOf y t
theorem lastOf_get : ∀ (p : List Int) (l : List (List Int)), (p :: l)[l.length]? = some (lastOf p l)
  | p, [] => rfl
  | p, y :: t => by
    have h := lastOf_get y t
    simpa [lastOf] using h
theorem dedupFrom_snoc : ∀ (p : List Int) (l : List (List Int)) (x : List Int), dedupFrom p (l ++ [x]) = dedupFrom p l ++ (if x = lastOf p l then [] else [x])
  | p, [], x => by
    by_cases e : x = p
    · subst e; simp [dedupFrom, lastOf]
    · simp [dedupFrom, lastOf, e]
  | p, y :: t, x => by
    have ih := dedupFrom_snoc y t x
    by_cases e : y = p
    · subst e
      show dedupFrom y (y :: (t ++ [x])) = dedupFrom y (y :: t) ++ _
      rw [dedupFrom, if_pos rfl, dedupFrom, if_pos rfl, ih]; rfl
    · show dedupFrom p (y :: (t ++ [x])) = dedupFrom p (y :: t) ++ _
      rw [dedupFrom, if_neg e, dedupFrom, if_neg e, ih]; rfl
theorem dedTo_map {α : Type} {key : α → List Int} {d : List α} : ∀ {p : Nat}, p ≤ d.length → (dedTo key d p).map key = dedup ((d.map key).take p)
  | 0, _ => by simp [dedTo, dedup]
  | 1, h => by
    cases d with
    | nil => simp at h
    | cons x t =>
      rw [dedTo_keep (x := x) rfl keepAt_zero]
      simp [dedTo, dedup, dedupFrom]
  | p + 2, h => by
    have h1 : p + 1 < d.length := h
    have h0 : p < d.length := by omega
    have ih := @dedTo_map _ key d (p + 1) (by omega)
    have hx : d[p + 1]? = some d[p + 1] := List.getElem?_eq_getElem h1
    have hy : d[p]? = some d[p] := List.getElem?_eq_getElem h0
    have e : (d.map key).take (p + 2) = (d.map key).take (p + 1) ++ [key d[p + 1]] := by
      rw [List.take_add_one (i := p + 1)]; simp [hx]
    obtain ⟨a, t, hat⟩ : ∃ a t, (d.map key).take (p + 1) = a :: t := by
      cases h9 : (d.map key).take (p + 1) with
      | nil =>
        have h8 := congrArg List.length h9
        rw [List.length_take, List.length_map, List.length_nil] at h8
        omega
      | cons a t => exact ⟨a, t, rfl⟩
    have hlen : t.length = p := by
      have := congrArg List.length hat; simp at this; omega
    have hlast : lastOf a t = key d[p] := by
      have h9 := lastOf_get a t
      rw [← hat, hlen, List.getElem?_take_of_lt (by omega), List.getElem?_map, hy] at h9
      exact (Option.some.inj h9).symm
    rw [e, hat]
    show _ = a :: dedupFrom a (t ++ [key d[p + 1]])
    rw [dedupFrom_snoc, hlast]
    rw [hat] at ih
    have ih' : (dedTo key d (p + 1)).map key = a :: dedupFrom a t := ih
    by_cases hk : key d[p + 1] = key d[p]
    · rw [dedTo_skip (by rw [keepAt_at hx hy, hk]; simp), ih', if_pos hk, List.append_nil]
    · rw [dedTo_keep hx (by rw [keepAt_at hx hy]; simp [hk]), List.map_append, ih', if_neg hk]; rfl

end Go.Proofs.Ytbkoddikfpkocaa

/- Contracts: slices and data compared (slices.Equal, slices.EqualFunc). -/
namespace Go.Proofs.Ytbkoddikfpkocaa
open Go.RowKit
set_option linter.unusedVariables false
set_option linter.unusedSimpArgs false

set_option maxHeartbeats 400000 in
theorem equalInts (a b : Option Addr) (n m cap cap' : Nat) (xs ys : List Int) (w : World) (h : Ints w a n xs) (h' : Ints w b m ys) :
    Calls Try.prog 141 #[.slice a n cap, .slice b m cap'] w fun e w' => e = .returned (.bool (decide (xs = ys))) ∧ Drew w w' := by
  have hl := h.len
  have hl' := h'.len
  have hn := h.small
  have hn' := h'.small
  by_cases hnm : n = m
  · subst hnm
    go_enter Try.func141, Try.ntmps141
    go_wp2
    go_loopw [5, 13] (fun _ k wr => ∃ j : Nat, j ≤ n ∧ k = .int .i64 j ∧ Hid (xs.take j = ys.take j) ∧ Drew w wr) (fun _ k _ => n - (intOf k).toNat)
    case atStart => exact ⟨0, Nat.zero_le _, rfl, rfl, Drew.refl _⟩
    case round =>
      obtain ⟨j, hj, rfl, hE, hdr⟩ := hrel
      replace h := h.drew hdr
      replace h' := h'.drew hdr
      by_cases hlt : j < n
      · obtain ⟨b1, o1, x, rfl, hc, hx, _, _⟩ := h.get hlt
        obtain ⟨b2, o2, y, rfl, hc', hy, _, _⟩ := h'.get hlt
        by_cases hxy : x = y
        · have HE := Lib.hid (take_same (by omega) (by omega) hE.out (by rw [hx.out, hy.out, hxy]))
          have hne : (x != y) = false := by simp [hxy]
          clear h h' hl hl' hxy
          go_wp2
          go_quiet (fail)
          go_wp2
          go_roundw
          case rel => exact ⟨j + 1, by omega, by go_num, HE, hdr.step _⟩
          case measure => simp [intOf]; omega
        · have HE := Lib.hid (show decide (xs = ys) = false by
            simp only [decide_eq_false_iff_not]; intro e; subst e; exact hxy (hx.out.symm.trans hy.out))
          have hne : (x != y) = true := by simp [hxy]
          clear h h' hl hl' hxy
          go_wp2
          go_quiet (fail)
          go_wp2
          go_ret
          exact ⟨ret_bool HE.out.symm, hdr.step _⟩
      · have HE := Lib.hid (show decide (xs = ys) = true by
          have e := hE.out
          rw [List.take_of_length_le (by omega), List.take_of_length_le (by omega)] at e
          simp [e])
        clear h h' hl hl'
        go_wp2
        go_ret
        exact ⟨ret_bool HE.out.symm, hdr⟩
  · have HE := Lib.hid (show decide (xs = ys) = false by
      simp only [decide_eq_false_iff_not]; intro e; subst e; omega)
    have hne : ((n : Int) != (m : Int)) = true := by rw [bne_iff_ne]; omega
    clear hl hl' h h'
    go_enter Try.func141, Try.ntmps141
    go_wp2
    go_ret
    exact ⟨ret_bool HE.out.symm, Drew.refl _⟩

set_option maxHeartbeats 400000 in
theorem equalRows1 (a b : Option Addr) (n m cap cap' : Nat) (xs ys : List Int) (w : World) (h : Ints w a n xs) (h' : Ints w b m ys) :
    Calls Try.prog 246 #[.slice a n cap, .slice b m cap'] w fun e w' => e = .returned (.bool (decide (xs = ys))) ∧ Drew w w' := by
  go_enter Try.func246, Try.ntmps246
  go_wp2_with fail
  refine (equalInts _ _ _ _ _ _ _ _ _ h h').mono ?_
  rintro e w' ⟨rfl, z⟩
  obtain ⟨t, ht⟩ : ∃ t, t = decide (xs = ys) := ⟨_, rfl⟩
  rw [← ht]
  have HT := Lib.hid ht
  clear ht
  go_wp2_with fail
  go_ret
  exact ⟨ret_bool HT.out, z⟩

theorem equalRows1K (u v : Value) (xs ys : List Int) (w : World) (h : rI.rep w [u] xs) (h' : rI.rep w [v] ys) :
    Calls Try.prog 246 #[u, v] w fun e w' => e = .returned (.bool (decide (xs = ys))) ∧ Below w.heap.size w w' := by
  obtain ⟨a, cap, rfl, _, _, hi⟩ := rI_open h
  obtain ⟨a', cap', rfl, _, _, hi'⟩ := rI_open h'
  exact (equalRows1 _ _ _ _ _ _ _ _ _ hi hi').mono fun e w' ⟨h1, h2⟩ => ⟨h1, h2.below _⟩

set_option maxHeartbeats 2000000 in
theorem equalFunc_II (u v : Value) (xs ys : List (List Int)) (w : World) (h : rII.rep w [u] xs) (h' : rII.rep w [v] ys) :
    Calls Try.prog 245 #[u, v, .func (Fn.func 246) #[] #[]] w fun e w' => e = .returned (.bool (decide (xs = ys))) ∧ Below w.heap.size w w' := by
  obtain ⟨a, cap, rfl, _, _, hi⟩ := rS_open h
  obtain ⟨a', cap', rfl, _, _, hi'⟩ := rS_open h'
  clear h h'
  have hn := hi.small
  have hn' := hi'.small
  obtain ⟨n, hl⟩ : ∃ n, xs.length = n := ⟨_, rfl⟩
  obtain ⟨m, hl'⟩ : ∃ n, ys.length = n := ⟨_, rfl⟩
  rw [hl] at hi hn ⊢
  rw [hl'] at hi' hn' ⊢
  by_cases hnm : n = m
  case neg =>
    have HE := Lib.hid (show decide (xs = ys) = false by simp only [decide_eq_false_iff_not]; intro e; subst e; omega)
    have hne : ((n : Int) != (m : Int)) = true := by rw [bne_iff_ne]; omega
    clear hl hl' hi hi'
    go_enter Try.func245, Try.ntmps245
    go_wp2_with fail
    go_ret
    exact ⟨ret_bool HE.out.symm, Below.refl _ _⟩
  subst hnm
  go_enter Try.func245, Try.ntmps245
  go_wp2_with fail
  go_loopw [7, 8, 17] (fun _ _ k wr => ∃ j : Nat, j ≤ n ∧ k = .int .i64 j ∧ Hid (xs.take j = ys.take j) ∧ Below w.heap.size w wr) (fun _ _ k _ => n - (intOf k).toNat)
  case atStart => exact ⟨0, Nat.zero_le _, rfl, rfl, Below.refl _ _⟩
  case round =>
    obtain ⟨j, hj, rfl, hE, hb⟩ := hrel
    by_cases hlt : j < n
    · obtain ⟨b, off, cs, x, rfl, hx, hr, hc⟩ := (hi.below hb).at hlt
      obtain ⟨b', off', ds, y, rfl, hy, hr', hd⟩ := (hi'.below hb).at hlt
      obtain ⟨ub, un, uc, rfl⟩ := rI_form hr
      obtain ⟨vb, vn, vc, rfl⟩ := rI_form hr'
      have c0 : wr.cell? ⟨b, off + j, none⟩ = some (.slice ub un uc) := by have h9 := hc 0 _ rfl; rw [show rI.size = 1 from rfl] at h9; simpa using h9
      have d0 : wr.cell? ⟨b', off' + j, none⟩ = some (.slice vb vn vc) := by have h9 := hd 0 _ rfl; rw [show rI.size = 1 from rfl] at h9; simpa using h9
      have hcall := equalRows1K _ _ x y wr hr hr'
      obtain ⟨t, ht⟩ : ∃ t, t = decide (x = y) := ⟨_, rfl⟩
      rw [← ht] at hcall
      have HC := Lib.hid hcall
      clear hcall hi hi' hr hr' hc hd
      have HT : Hid (if t = true then xs.take (j + 1) = ys.take (j + 1) else decide (xs = ys) = false) := by
        cases t
        · simp only [Bool.false_eq_true, if_false]
          have hxy : x ≠ y := by simpa using ht.symm
          simp only [Hid, Bool.false_eq_true, if_false, decide_eq_false_iff_not]; intro e; subst e; exact hxy (Option.some.inj (hx.out.symm.trans hy.out))
        · have hxy : x = y := by simpa using ht.symm
          simp only [Hid, if_true]; rw [take_snoc' xs j x hx.out, take_snoc' ys j y hy.out, hE.out, hxy]
      clear ht hx hy hE
      go_wp2_with fail
      refine HC.out.mono ?_
      rintro e w1 ⟨rfl, z1⟩
      have z2 := on hb z1
      cases t
      · have HE : Hid (decide (xs = ys) = false) := by simpa [Hid] using HT.out
        go_wp2_with fail
        go_ret
        exact ⟨ret_bool HE.out.symm, z2⟩
      · have HE : Hid (xs.take (j + 1) = ys.take (j + 1)) := by simpa [Hid] using HT.out
        go_wp2_with fail
        go_roundw
        case rel => exact ⟨j + 1, by omega, by go_num, HE.out, z2⟩
        case measure => simp [intOf]; omega
    · have HE := Lib.hid (show decide (xs = ys) = true by
        have e := hE.out
        rw [List.take_of_length_le (by omega), List.take_of_length_le (by omega)] at e
        simp [e])
      clear hi hi' hl hl'
      go_wp2_with fail
      go_ret
      exact ⟨ret_bool HE.out.symm, hb⟩

set_option maxHeartbeats 400000 in
theorem equalRows_any (u v : Value) (xs ys : List (List Int)) (w : World) (h : rII.rep w [u] xs) (h' : rII.rep w [v] ys) :
    Calls Try.prog 237 #[u, v] w fun e w' => e = .returned (.bool (decide (xs = ys))) ∧ Below w.heap.size w w' := by
  go_enter Try.func237, Try.ntmps237
  go_wp2_with fail
  refine (equalFunc_II _ _ _ _ _ h h').mono ?_
  rintro e w' ⟨rfl, z⟩
  obtain ⟨t, ht⟩ : ∃ t, t = decide (xs = ys) := ⟨_, rfl⟩
  rw [← ht]
  have HT := Lib.hid ht
  clear ht
  go_wp2_with fail
  go_ret
  exact ⟨ret_bool HT.out, z⟩

end Go.Proofs.Ytbkoddikfpkocaa

/- Kind Db: shape, size, copy, comparison. Written by a program. -/
namespace Go.Proofs.Ytbkoddikfpkocaa
open Go.RowKit
set_option linter.unusedVariables false
set_option linter.unusedSimpArgs false
set_option synthInstance.maxSize 2000
set_option synthInstance.maxHeartbeats 400000

abbrev DDb := List DT
def rDb : RS DDb := rTl
def oDb : OS DDb := oTl
theorem reads_Db : Reads oDb rDb := reads_Tl
theorem rDb_open {w : World} {cs : List Value} {x : DDb} (h : rDb.rep w cs x) : ∃ ub0 un0 uc0, cs = [.slice ub0 un0 uc0] ∧ rTl.rep w [.slice ub0 un0 uc0] x := by
  have hr0 := h
  obtain ⟨ub0, un0, uc0, rfl⟩ := rTl_form hr0
  exact ⟨_, _, _, rfl, hr0⟩
theorem rDb_form {w : World} {cs : List Value} {x : DDb} (h : rDb.rep w cs x) : ∃ ub0 un0 uc0, cs = [.slice ub0 un0 uc0] := by
  obtain ⟨ub0, un0, uc0, h1, _⟩ := rDb_open h
  exact ⟨_, _, _, h1⟩
theorem rDb_mk {w : World} {ub0 : Option Addr} {un0 uc0 : Nat} {x : DDb} (h0 : rTl.rep w [.slice ub0 un0 uc0] x) : rDb.rep w [.slice ub0 un0 uc0] x :=
  h0
theorem oDb_form {lo hi : Nat} {w : World} {cs : List Value} {x : DDb} (h : Own oDb lo hi w cs x) : ∃ ub0 un0 uc0, cs = [.slice ub0 un0 uc0] := rDb_form (h.rd reads_Db)

theorem oDb_mk {lo hi l0 m0 : Nat} {w : World} {ub0 : Option Addr} {un0 uc0 : Nat} {x : DDb} (ho0 : Own oTl l0 m0 w [.slice ub0 un0 uc0] x) (a0 : lo ≤ l0) (b0 : m0 ≤ hi)  : Own oDb lo hi w [.slice ub0 un0 uc0] x := by
  obtain ⟨f0, r0, n0, q0⟩ := ho0
  refine ⟨f0, r0, ?_, ?_⟩
  · try simp only [List.nil_append, List.append_nil]
    exact n0
  · intro p hp
    try simp only [List.nil_append, List.append_nil, List.mem_append] at hp
    have := q0 p hp; omega

def bulk_Db (x : DDb) : Nat := bulk_Tl x

set_option maxHeartbeats 1000000 in
theorem sz_Db (cs : List Value) (x : DDb) (left : Int) (w : World) (h : rDb.rep w cs x) (h0 : 0 ≤ left) (h1 : left ≤ 1048576) :
    Calls Try.prog 71 #[.agg cs.toArray, .int .i64 left] w fun e w' => e = .returned (.int .i64 (szR left (bulk_Db x))) ∧ Below w.heap.size w w' := by
  obtain ⟨ub0, un0, uc0, rfl, g0⟩ := rDb_open h
  clear h
  have HE0 : Hid (szR left (bulk_Db x) = szR left (bulk_Tl x)) := rfl
  go_enter Try.func71, Try.ntmps71
  obtain ⟨w1, hw1⟩ : ∃ W, W = w.alloc (.cells #[.slice ub0 un0 uc0] 81) := ⟨_, rfl⟩
  have z1 : Below w.heap.size w w1 := by rw [hw1]; exact (Below.refl _ _).alloc (Nat.le_refl _) _
  have s1 : w1.heap.size = w.heap.size + 1 := by rw [hw1]; simp
  have bp_0 : w1.cell? ⟨w.heap.size, 0, none⟩ = some (.slice ub0 un0 uc0) := by rw [hw1]; exact box_cell (Below.refl _ _) rfl
  have hb1 := z1
  go_wp2_with fail
  rw [← hw1]
  clear hw1
  refine (sz_Tl _ x _ _ (rTl.mono g0 hb1) (by omega) (by omega)).mono ?_
  rintro e w2 ⟨rfl, z2⟩
  have s2 := z2.size
  have hb2 := on hb1 z2
  replace bp_0 := (z2.cell (p := ⟨w.heap.size, 0, none⟩) (by simp only []; omega)).trans bp_0
  obtain ⟨q0, hq0⟩ : ∃ q, q = szR left (bulk_Tl x) := ⟨_, rfl⟩
  rw [← hq0]
  have hc0 := szR_cases left (bulk_Tl x)
  rw [← hq0] at hc0
  clear hq0
  rcases hc0 with ⟨rfl, l0⟩ | ⟨hq0, l0⟩
  · have HE := Lib.hid (HE0.out.trans (szR_no0 l0))
    clear l0
    go_wp2_with fail
    go_ret
    exact ⟨ret_int HE.out.symm, hb2⟩
  have HE1 := Lib.hid (HE0.out.trans ((szR_yes l0).trans (by rw [hq0])) : szR left (bulk_Db x) = q0)
  have p0 : 0 ≤ q0 := by omega
  have p0b : q0 ≤ 1048576 := by omega
  clear hq0 l0
  go_wp2_with fail
  go_ret
  exact ⟨ret_int HE1.out.symm, hb2⟩

set_option maxHeartbeats 2000000 in
theorem to_Db (cs : List Value) (x : DDb) (w : World) (h : rDb.rep w cs x) (hn : bulk_Db x ≤ 1048576) :
    Calls Try.prog 74 #[.agg cs.toArray] w fun e w' => ∃ us, e = .returned (.agg us.toArray) ∧ Own oDb w.heap.size w'.heap.size w' us x ∧ Below w.heap.size w w' := by
  obtain ⟨ub0, un0, uc0, rfl, g0⟩ := rDb_open h
  clear h
  unfold bulk_Db at hn
  have hn0 : bulk_Tl x ≤ 1048576 := by omega
  clear hn
  go_enter Try.func74, Try.ntmps74
  obtain ⟨W0, hW0⟩ : ∃ W, W = ((w.alloc (.cells #[.slice ub0 un0 uc0] 81)).alloc (.cells #[.slice none 0 0] 89)).alloc (.cells #[.slice none 0 0] 89) := ⟨_, rfl⟩
  have hB0 : Below w.heap.size w W0 := by rw [hW0]; exact (((Below.refl _ _).alloc (Nat.le_refl _) _).alloc (by simp) _).alloc (by simp <;> omega) _
  have t0 : W0.heap.size = w.heap.size + 1 + 1 + 1 := by rw [hW0]; simp
  have bp_0 : W0.cell? ⟨w.heap.size, 0, none⟩ = some (.slice ub0 un0 uc0) := by rw [hW0]; simp [go_sem, World.cell?_alloc_past]
  have br_0 : W0.cell? ⟨w.heap.size + 1, 0, none⟩ = some (.slice none 0 0) := by rw [hW0]; simp [go_sem, World.cell?_alloc_past]
  have fr_0 : W0.frozen? ⟨w.heap.size + 1, 0, none⟩ = false := by rw [hW0]; simp [go_sem, World.frozen?_alloc_past]
  have bo_0 : W0.cell? ⟨w.heap.size + 1 + 1, 0, none⟩ = some (.slice none 0 0) := by rw [hW0]; simp [go_sem, World.cell?_alloc_past]
  have fo_0 : W0.frozen? ⟨w.heap.size + 1 + 1, 0, none⟩ = false := by rw [hW0]; simp [go_sem, World.frozen?_alloc_past]
  go_wp2_with fail
  rw [← hW0]
  clear hW0
  refine (to_Tl _ x _ (rTl.mono g0 hB0) hn0).mono ?_
  rintro e w1 ⟨a0, rfl, ho0, z1⟩
  have s1 := z1.size
  obtain ⟨ab0, an0, ac0, rfl⟩ := oTl_form1 ho0
  have q1 := on hB0 z1
  replace bp_0 := (z1.cell (p := ⟨w.heap.size, 0, none⟩) (by simp only []; omega)).trans bp_0
  replace br_0 := (z1.cell (p := ⟨w.heap.size + 1, 0, none⟩) (by simp only []; omega)).trans br_0
  replace fr_0 := (z1.frozen (p := ⟨w.heap.size + 1, 0, none⟩) (by simp only []; omega)).trans fr_0
  replace bo_0 := (z1.cell (p := ⟨w.heap.size + 1 + 1, 0, none⟩) (by simp only []; omega)).trans bo_0
  replace fo_0 := (z1.frozen (p := ⟨w.heap.size + 1 + 1, 0, none⟩) (by simp only []; omega)).trans fo_0
  go_wp2_with fail
  refine bodyPost_ret (v := .agg #[.slice ab0 an0 ac0]) (by simp [results, Try.results74, go_sem, br_0, bo_0, fr_0, fo_0]) rfl ⟨_, rfl, ?_, ?_⟩
  · skip
    have hS0 : ∀ (W : World) (p : Addr) (u : Value), p.block < w.heap.size + 1 + 1 + 1 → Own oTl W0.heap.size w1.heap.size W [.slice ab0 an0 ac0] x → Own oTl W0.heap.size w1.heap.size (W.setCell p u) [.slice ab0 an0 ac0] x := fun W p u hp k9 => k9.setOut rfl (by omega)
    exact oDb_mk (hS0 _ _ _ (by simp <;> omega) (hS0 _ _ _ (by simp <;> omega) ho0)) (by omega) (by simp [World.setCell] <;> omega) 
  · exact ((q1.setCell (by simp <;> omega) _).setCell (by simp <;> omega) _)

set_option maxHeartbeats 2000000 in
theorem eq_Db (cs ds : List Value) (x y : DDb) (w : World) (h : rDb.rep w cs x) (h' : rDb.rep w ds y) :
    Calls Try.prog 77 #[.agg cs.toArray, .agg ds.toArray] w fun e w' => e = .returned (.bool (decide (x = y))) ∧ Below w.heap.size w w' := by
  obtain ⟨ub0, un0, uc0, rfl, g0⟩ := rDb_open h
  obtain ⟨vb0, vn0, vc0, rfl, k0⟩ := rDb_open h'
  clear h h'
  have hb1 : Below w.heap.size w ((w.alloc (.cells #[.slice ub0 un0 uc0] 89)).alloc (.cells #[.slice vb0 vn0 vc0] 89)) := ((Below.refl _ _).alloc (Nat.le_refl _) _).alloc (by simp) _
  go_enter Try.func77, Try.ntmps77
  obtain ⟨w1, hw1⟩ : ∃ W, W = (w.alloc (.cells #[.slice ub0 un0 uc0] 89)).alloc (.cells #[.slice vb0 vn0 vc0] 89) := ⟨_, rfl⟩
  have s1 : w1.heap.size = w.heap.size + 1 + 1 := by rw [hw1]; simp
  rw [← hw1] at hb1
  have bc_0 : w1.cell? ⟨w.heap.size, 0, none⟩ = some (.slice ub0 un0 uc0) := by rw [hw1]; simp [go_sem, World.cell?_alloc_past]
  have bd_0 : w1.cell? ⟨w.heap.size + 1, 0, none⟩ = some (.slice vb0 vn0 vc0) := by rw [hw1]; simp [go_sem, World.cell?_alloc_past]
  go_wp2_with fail
  rw [← hw1]
  clear hw1
  refine (eq_Tl _ _ x y _ (rTl.mono g0 hb1) (rTl.mono k0 hb1)).mono ?_
  rintro e w2 ⟨rfl, z2⟩
  have s2 := z2.size
  have hb2 := on hb1 z2
  replace bc_0 := (z2.cell (p := ⟨w.heap.size, 0, none⟩) (by simp only []; omega)).trans bc_0
  replace bd_0 := (z2.cell (p := ⟨w.heap.size + 1, 0, none⟩) (by simp only []; omega)).trans bd_0
  by_cases e0 : x = y
  case neg =>
    have HE := Lib.hid (show decide (x = y) = false by simp only [decide_eq_false_iff_not]; intro h9; exact e0 (by rw [h9]))
    have hne : decide (x = y) = false := by simpa using e0
    rw [hne]
    clear e0 hne
    go_wp2_with fail
    go_ret
    exact ⟨ret_bool HE.out.symm, hb2⟩
  have E0 := Lib.hid e0
  have hq0 : decide (x = y) = true := by simpa using e0
  rw [hq0]
  clear e0 hq0
  have HE := Lib.hid (show decide (x = y) = true by simp only [decide_eq_true_eq]; exact E0.out)
  go_wp2_with fail
  go_ret
  exact ⟨ret_bool HE.out.symm, hb2⟩

end Go.Proofs.Ytbkoddikfpkocaa
