/- Texts joined for one claim: QuietB, KIn, OII, OIn, RegLast, Copy, KTl, OT, AccR, KDb, MTl, OTl, CopyS, MDb, ODb, ValidDb. -/
import Derived.Test.YtbkoddikfpkocaaQe446e3176f
import Derived.Lib.QuietBelow
import Derived.Deep.RegionHeld3
import Derived.Orders
import Derived.Deep.AppendSrc
import Derived.Maps.AppendAt

/- Contracts met in a region that draws its order and makes memory. -/
namespace Go.Proofs.Ytbkoddikfpkocaa
open Go.RowKit Go.Sort
set_option linter.unusedVariables false

theorem reg_same {P : Program} {f : FuncId} {args : Array Value} {w : World} {d : Nat} {os : Array Obj} {v : Value}
    (h : Calls P f args (grow (redrawn w d) os) fun e w' => e = .returned v ∧ grow (redrawn w d) os = w') : Calls P f args (grow (redrawn w d) os) fun e w'' => e = .returned v ∧ ∃ p : Regrown, w'' = grow (redrawn w p.d) p.os :=
  h.mono fun _ _ ⟨he, hb⟩ => ⟨he, ⟨d, os⟩, hb.symm⟩
theorem reg_drew {P : Program} {f : FuncId} {args : Array Value} {w : World} {d : Nat} {os : Array Obj} {v : Value}
    (h : Calls P f args (grow (redrawn w d) os) fun e w' => e = .returned v ∧ Drew (grow (redrawn w d) os) w') : Calls P f args (grow (redrawn w d) os) fun e w'' => e = .returned v ∧ ∃ p : Regrown, w'' = grow (redrawn w p.d) p.os :=
  Calls.regrown_of (h.mono fun _ _ ⟨he, hb⟩ => ⟨he, hb.below _⟩)
theorem box_frozen {w wr : World} {cs : Array Value} {T : TypeId} {i : Nat} (hb : Below (w.heap.size + 1) (w.alloc (.cells cs T)) wr) : wr.frozen? ⟨w.heap.size, i, none⟩ = false := by
  rw [hb.frozen (p := ⟨w.heap.size, i, none⟩) (Nat.lt_succ_self _)]
  have h : (w.alloc (.cells cs T)).heap[w.heap.size]? = some (.cells cs T) := heap_alloc_new w _
  simp only [World.frozen?, h]
  simp

end Go.Proofs.Ytbkoddikfpkocaa

/- Kind In: shape, size, copy, comparison. Written by a program. -/
namespace Go.Proofs.Ytbkoddikfpkocaa
open Go.RowKit
set_option linter.unusedVariables false
set_option linter.unusedSimpArgs false
set_option synthInstance.maxSize 2000
set_option synthInstance.maxHeartbeats 400000

abbrev DIn := ByteArray × Int × ByteArray × Int
def rIn : RS DIn := R.pair R.str (R.pair R.int (R.pair R.str R.int))
def oIn : OS DIn := O.pair O.str (O.pair O.int (O.pair O.str O.int))
theorem reads_In : Reads oIn rIn := Reads.pair Reads.str (Reads.pair Reads.int (Reads.pair Reads.str Reads.int))
theorem rIn_open {w : World} {cs : List Value} {x : DIn} (h : rIn.rep w cs x) :  cs = [.string x.1, .int .i64 x.2.1, .string x.2.2.1, .int .i64 x.2.2.2] ∧ x.1.size ≤ 9223372036854775807 ∧ I64 x.2.1 ∧ x.2.2.1.size ≤ 9223372036854775807 ∧ I64 x.2.2.2 := by
  obtain ⟨c0a, c0b, rfl, ⟨rfl, hs0⟩, ⟨c1a, c1b, rfl, ⟨rfl, hi1⟩, ⟨c2a, c2b, rfl, ⟨rfl, hs2⟩, ⟨rfl, hi3⟩⟩⟩⟩ := h
  exact ⟨rfl, hs0, hi1, hs2, hi3⟩
theorem rIn_form {w : World} {cs : List Value} {x : DIn} (h : rIn.rep w cs x) :  cs = [.string x.1, .int .i64 x.2.1, .string x.2.2.1, .int .i64 x.2.2.2] := by
  obtain ⟨h1, _⟩ := rIn_open h
  exact h1
theorem rIn_mk {w : World} {x : DIn} (h0 : x.1.size ≤ 9223372036854775807) (h1 : I64 x.2.1) (h2 : x.2.2.1.size ≤ 9223372036854775807) (h3 : I64 x.2.2.2) : rIn.rep w [.string x.1, .int .i64 x.2.1, .string x.2.2.1, .int .i64 x.2.2.2] x :=
  ⟨[.string x.1], [.int .i64 x.2.1, .string x.2.2.1, .int .i64 x.2.2.2], rfl, ⟨rfl, h0⟩, ⟨[.int .i64 x.2.1], [.string x.2.2.1, .int .i64 x.2.2.2], rfl, ⟨rfl, h1⟩, ⟨[.string x.2.2.1], [.int .i64 x.2.2.2], rfl, ⟨rfl, h2⟩, ⟨rfl, h3⟩⟩⟩⟩
theorem oIn_form {lo hi : Nat} {w : World} {cs : List Value} {x : DIn} (h : Own oIn lo hi w cs x) :  cs = [.string x.1, .int .i64 x.2.1, .string x.2.2.1, .int .i64 x.2.2.2] := rIn_form (h.rd reads_In)

theorem oIn_mk {lo hi : Nat} {w : World} {x : DIn} (hs0 : x.1.size ≤ 9223372036854775807) (hi1 : I64 x.2.1) (hs2 : x.2.2.1.size ≤ 9223372036854775807) (hi3 : I64 x.2.2.2)   : Own oIn lo hi w [.string x.1, .int .i64 x.2.1, .string x.2.2.1, .int .i64 x.2.2.2] x := by
  refine ⟨([] ++ ([] ++ ([] ++ []))), ⟨[.string x.1], [.int .i64 x.2.1, .string x.2.2.1, .int .i64 x.2.2.2], [], ([] ++ ([] ++ [])), rfl, rfl, ⟨rfl, hs0, rfl⟩, ⟨[.int .i64 x.2.1], [.string x.2.2.1, .int .i64 x.2.2.2], [], ([] ++ []), rfl, rfl, ⟨rfl, hi1, rfl⟩, ⟨[.string x.2.2.1], [.int .i64 x.2.2.2], [], [], rfl, rfl, ⟨rfl, hs2, rfl⟩, ⟨rfl, hi3, rfl⟩⟩⟩⟩, ?_, ?_⟩
  · simp
  · intro k hk; simp at hk

def bulk_In (x : DIn) : Nat := (x.1.size) + (x.2.2.1.size)

set_option maxHeartbeats 1000000 in
theorem sz_In (cs : List Value) (x : DIn) (left : Int) (w : World) (h : rIn.rep w cs x) (h0 : 0 ≤ left) (h1 : left ≤ 1048576) :
    Calls Try.prog 72 #[.agg cs.toArray, .int .i64 left] w fun e w' => e = .returned (.int .i64 (szR left (bulk_In x))) ∧ Below w.heap.size w w' := by
  obtain ⟨rfl, g0, g1, g2, g3⟩ := rIn_open h
  clear h
  have HE0 : Hid (szR left (bulk_In x) = szR left ((x.1.size) + (x.2.2.1.size))) := rfl
  go_enter Try.func72, Try.ntmps72
  obtain ⟨w1, hw1⟩ : ∃ W, W = w.alloc (.cells #[.string x.1, .int .i64 x.2.1, .string x.2.2.1, .int .i64 x.2.2.2] 83) := ⟨_, rfl⟩
  have z1 : Below w.heap.size w w1 := by rw [hw1]; exact (Below.refl _ _).alloc (Nat.le_refl _) _
  have s1 : w1.heap.size = w.heap.size + 1 := by rw [hw1]; simp
  have bp_0 : w1.cell? ⟨w.heap.size, 0, none⟩ = some (.string x.1) := by rw [hw1]; exact box_cell (Below.refl _ _) rfl
  have bp_1 : w1.cell? ⟨w.heap.size, 1, none⟩ = some (.int .i64 x.2.1) := by rw [hw1]; exact box_cell (Below.refl _ _) rfl
  have bp_2 : w1.cell? ⟨w.heap.size, 2, none⟩ = some (.string x.2.2.1) := by rw [hw1]; exact box_cell (Below.refl _ _) rfl
  have bp_3 : w1.cell? ⟨w.heap.size, 3, none⟩ = some (.int .i64 x.2.2.2) := by rw [hw1]; exact box_cell (Below.refl _ _) rfl
  have hb1 := z1
  by_cases l0 : (x.1.size : Int) ≤ left
  case neg =>
    have HE := Lib.hid (HE0.out.trans (szR_no _ l0))
    go_wp2_with fail
    go_ret
    exact ⟨ret_int HE.out.symm, by first | exact hb1 | (have h9 := hb1; rw [hw1] at h9; exact h9)⟩
  have HE1 := Lib.hid (HE0.out.trans (szR_add l0))
  by_cases l2 : (x.2.2.1.size : Int) ≤ (left - x.1.size)
  case neg =>
    have HE := Lib.hid (HE1.out.trans (szR_no0 l2))
    go_wp2_with fail
    go_ret
    exact ⟨ret_int HE.out.symm, by first | exact hb1 | (have h9 := hb1; rw [hw1] at h9; exact h9)⟩
  have HE2 := Lib.hid (HE1.out.trans (szR_yes l2))
  go_wp2_with fail
  go_ret
  exact ⟨ret_int HE2.out.symm, by first | exact hb1 | (have h9 := hb1; rw [hw1] at h9; exact h9)⟩

set_option maxHeartbeats 2000000 in
theorem to_In (cs : List Value) (x : DIn) (w : World) (h : rIn.rep w cs x) :
    Calls Try.prog 75 #[.agg cs.toArray] w fun e w' => e = .returned (.agg cs.toArray) ∧ Below w.heap.size w w' := by
  obtain ⟨rfl, g0, g1, g2, g3⟩ := rIn_open h
  clear h
  go_enter Try.func75, Try.ntmps75
  go_wp2_with fail
  refine bodyPost_ret (v := .agg #[.string x.1, .int .i64 x.2.1, .string x.2.2.1, .int .i64 x.2.2.2]) (by simp [results, Try.results75, go_sem]) rfl ⟨rfl, ?_⟩
  exact ((((Below.refl _ _).alloc (Nat.le_refl _) _).alloc (by simp) _).alloc (by simp <;> omega) _)

end Go.Proofs.Ytbkoddikfpkocaa

/- Arguments of kind II opened. Written by a program. -/
namespace Go.Proofs.Ytbkoddikfpkocaa
open Go.ChangeShapes Go.WideShapes Go.ChangeAt Go.RowKit
set_option linter.unusedVariables false
set_option maxRecDepth 100000

theorem opens_II : Opens 32 rII := opens_slice Try.underlying32 (by kernel_rfl) (by decide) opens_I
def kII_in (w : World) (v : Value) : Prop := ∃ u xs, v = u ∧ rII.rep w [u] xs
theorem open_kII_in {H : Type} {enc : TypeId × Value → H} {W : World} {d : DataW H} {ps : List MemPlace} {v : Value} (hv : Value.okWide Try.prog W .any 0 32 v) (h : DataW.Trod enc Try.prog W 0 (fun _ => true) true 32 v d ps) : kII_in W v := by
  obtain ⟨a, l, c, rfl⟩ := okWide_slice Try.underlying32 hv
  obtain ⟨fuel, hf⟩ := h
  obtain ⟨xs, hx⟩ := opens_II H enc W fuel _ _ hf
  exact ⟨_, xs, rfl, by simpa [Value.cells] using hx⟩

end Go.Proofs.Ytbkoddikfpkocaa

/- Arguments of kind In opened. Written by a program. -/
namespace Go.Proofs.Ytbkoddikfpkocaa
open Go.ChangeShapes Go.WideShapes Go.ChangeAt Go.RowKit
set_option linter.unusedVariables false
set_option maxRecDepth 100000

theorem opens_In : Opens 83 rIn := opens_struct4 Try.underlying83 (by kernel_rfl) rfl rfl rfl rfl (by kernel_rfl) (by kernel_rfl) (by kernel_rfl) (by kernel_rfl) opens_str' opens_int opens_str' opens_int
abbrev kIn_in := agg_in rIn
theorem open_kIn_in {H : Type} {enc : TypeId × Value → H} {W : World} {d : DataW H} {ps : List MemPlace} {v : Value} (hv : Value.okWide Try.prog W .any 0 83 v) (h : DataW.Trod enc Try.prog W 0 (fun _ => true) true 83 v d ps) : kIn_in W v :=
  open_agg_in Try.underlying83 opens_In hv h

end Go.Proofs.Ytbkoddikfpkocaa

/- A region that draws its order, whose last operation waits for all the others. -/
namespace Go.Proofs.Ytbkoddikfpkocaa
open Go.RowKit
set_option linter.unusedVariables false

/-- What is asked behind all but the last. -/
def LastQ (P : Program) (o : Oper) (Q : Exit → Act → World → Prop) : Exit → Act → World → Prop
  | .normal, a, w => Oper.wp P o a w (fun a' w' => Q .normal a' w') Q
  | e, a, w => Q e a w

theorem oper_wp_lastQ {P : Program} {Q : Exit → Act → World → Prop} {o l : Oper} {a : Act} {w : World} {K : Act → World → Prop} (h : o.wp P a w K (LastQ P l Q)) : o.wp P a w K Q := by
  unfold Oper.wp at *
  generalize (execOp a.eval o).run P w = r at *
  cases r with
  | ok n w' =>
    cases n <;> simp only [Oper.upon] at h ⊢ <;>
      first
        | exact h
        | exact Calls.mono h (fun e w'' he => by cases e <;> first | exact he | exact he)
        | exact Rows.mono h (fun _ _ he => he)
  | halt x w' => cases x <;> simp only [Oper.upon] at h ⊢ <;> exact h

/-- Edges backward, no guards, and the last waits for all. -/
structure LastOk (md : Region.Mode) (ops : Array Oper) (l : Oper) : Prop where
  op : ∀ i o, ops[i]? = some o → o.guard = none ∧ (∀ e ∈ o.after, e.on < i) ∧ ∃ e ∈ l.after, Region.binds md e = true ∧ e.on = i
  last : l.guard = none ∧ ∀ e ∈ l.after, e.on < ops.size
def lastOk (md : Region.Mode) (ops : Array Oper) (l : Oper) : Bool :=
  (List.range ops.size).all (fun i => match ops[i]? with
    | some o => o.guard.isNone && (o.after.toList.all (fun e => decide (e.on < i)) && l.after.toList.any (fun e => Region.binds md e && decide (e.on = i)))
    | none => true) && (l.guard.isNone && l.after.toList.all (fun e => decide (e.on < ops.size)))
theorem LastOk.of {md : Region.Mode} {ops : Array Oper} {l : Oper} (h : lastOk md ops l = true) : LastOk md ops l := by
  simp only [lastOk, Bool.and_eq_true, List.all_eq_true, List.mem_range] at h
  obtain ⟨h1, h2, h3⟩ := h
  refine ⟨fun i o ho => ?_, by simpa using h2, fun e he => by have := h3 e (Array.mem_toList_iff.2 he); simpa using this⟩
  have hlt : i < ops.size := (Array.getElem?_eq_some_iff.1 ho).1
  have h4 := h1 i hlt
  rw [ho] at h4
  simp only [Bool.and_eq_true, List.all_eq_true, List.any_eq_true, decide_eq_true_eq] at h4
  obtain ⟨h5, h6, e, he, h7, h8⟩ := h4
  exact ⟨by simpa using h5, fun e he => h6 e (Array.mem_toList_iff.2 he), e, Array.mem_toList_iff.1 he, h7, h8⟩

theorem getD_push_lt {L : Array Bool} {i : Nat} (d : Bool) (h : i < L.size) : (L.push false).getD i d = L.getD i d := by
  simp [Array.getElem?_push_lt, h]
theorem mem_ready_push {md : Region.Mode} {ops : Array Oper} {l : Oper} (hok : LastOk md ops l) {L : Array Bool} (hL : L.size = ops.size) {i : Nat} (hi : i < ops.size) :
    i ∈ Region.ready md (ops.push l) (L.push false) ↔ i ∈ Region.ready md ops L := by
  rw [mem_ready, mem_ready, getD_push_lt true (by omega), Array.getElem?_push_lt hi, Array.getElem?_eq_getElem hi]
  constructor
  · rintro ⟨h0, o, ho, h⟩
    refine ⟨h0, o, ho, fun e he hb => ?_⟩
    have := h e he hb
    rwa [getD_push_lt false (by have := (hok.op i o (by rw [Array.getElem?_eq_getElem hi]; exact ho)).2.1 e he; omega)] at this
  · rintro ⟨h0, o, ho, h⟩
    refine ⟨h0, o, ho, fun e he hb => ?_⟩
    rw [getD_push_lt false (by have := (hok.op i o (by rw [Array.getElem?_eq_getElem hi]; exact ho)).2.1 e he; omega)]
    exact h e he hb
theorem all_listed {md : Region.Mode} {ops : Array Oper} {l : Oper} (hok : LastOk md ops l) {L : Array Bool} (hL : L.size = ops.size) (hr : Region.ready md ops L = []) : ∀ i, i < ops.size → L.getD i true = true := by
  intro i
  induction i using Nat.strongRecOn with
  | _ i ih =>
    intro hi
    cases h : L.getD i true with
    | true => rfl
    | false =>
      have : i ∈ Region.ready md ops L := by
        rw [mem_ready]
        refine ⟨h, ops[i], Array.getElem?_eq_getElem hi, fun e he hb => ?_⟩
        have hlt := (hok.op i ops[i] (Array.getElem?_eq_getElem hi)).2.1 e he
        have := ih e.on hlt (by omega)
        have h9 : e.on < L.size := by omega
        simpa [h9] using this
      rw [hr] at this
      cases this

theorem mem_ready_last {md : Region.Mode} {ops : Array Oper} {l : Oper} (hok : LastOk md ops l) {L : Array Bool} (hL : L.size = ops.size) : ops.size ∈ Region.ready md (ops.push l) (L.push false) ↔ ∀ i, i < ops.size → L.getD i true = true := by
  rw [mem_ready]
  constructor
  · rintro ⟨_, o, ho, h⟩ i hi
    rw [Array.getElem?_push_size] at ho
    obtain rfl := Option.some.inj ho
    obtain ⟨e, he, hb, rfl⟩ := (hok.op i ops[i] (Array.getElem?_eq_getElem hi)).2.2
    have := h e he hb
    rw [getD_push_lt false (by omega)] at this
    have h9 : e.on < L.size := by omega
    simpa [h9] using this
  · intro h
    refine ⟨?_, l, Array.getElem?_push_size, fun e he hb => ?_⟩
    · rw [← hL]; simp
    · have h8 := hok.last.2 e he
      rw [getD_push_lt false (by omega)]
      have := h e.on h8
      have h9 : e.on < L.size := by omega
      simpa [h9] using this
theorem ready_full {md : Region.Mode} {ops : Array Oper} {L : Array Bool} (h : ∀ i, i < ops.size → L.getD i true = true) : Region.ready md ops L = [] := by
  apply List.eq_nil_iff_forall_not_mem.2
  intro i hi
  obtain ⟨h0, o, ho, _⟩ := mem_ready.1 hi
  rw [h i (Array.getElem?_eq_some_iff.1 ho).1] at h0
  cases h0

/-- A region, but for its last operation, with that behind it. -/
theorem wpAny_last {P : Program} {md : Region.Mode} {ops : Array Oper} {l : Oper} {Q : Exit → Act → World → Prop} (hok : LastOk md ops l) : ∀ (fuel : Nat) (L : Array Bool) (a : Act) (w : World), L.size = ops.size →
    wpAny P md ops (LastQ P l Q) fuel L a w → wpAny P md (ops.push l) Q (fuel + 1) (L.push false) a w := by
  have full : ∀ (fuel : Nat) (L : Array Bool) (a : Act) (w : World), L.size = ops.size → (∀ i, i < ops.size → L.getD i true = true) → Oper.wp P l a w (fun a' w' => Q .normal a' w') Q → wpAny P md (ops.push l) Q (fuel + 1) (L.push false) a w := by
    intro fuel L a w hL hall h
    have hin := (mem_ready_last hok hL).2 hall
    refine ⟨fun h0 => absurd (h0 ▸ hin) (by simp), fun i hi => ?_⟩
    have hin2 : i = ops.size := by
      obtain ⟨h0, o, ho, _⟩ := mem_ready.1 hi
      have hlt := (Array.getElem?_eq_some_iff.1 ho).1
      rw [Array.size_push] at hlt
      rcases Nat.lt_or_ge i ops.size with h9 | h9
      · rw [getD_push_lt true (by omega), hall i h9] at h0; cases h0
      · omega
    subst hin2
    have hset : (L.push false).setIfInBounds ops.size true = L.push true := by
      rw [← hL]
      apply Array.ext_getElem?
      intro j
      by_cases hij : L.size = j
      · subst hij
        simp
      · rw [Array.getElem?_setIfInBounds_ne hij, Array.getElem?_push, Array.getElem?_push]
        simp [Ne.symm hij]
    have hr0 : Region.ready md (ops.push l) (L.push true) = [] := by
      apply ready_full
      intro j hj
      rw [Array.size_push] at hj
      rcases Nat.lt_or_ge j ops.size with h9 | h9
      · have := hall j h9
        have h8 : j < L.size := by omega
        simpa [Array.getElem?_push_lt, h8] using this
      · have : j = L.size := by omega
        subst this; simp
    unfold wpOp
    rw [Array.getElem?_push_size]
    simp only []
    rw [if_pos (by simp [Region.wanted, hok.last.1]), hset]
    refine .inl (Oper.wp_mono (fun a' w' h9 => ?_) h)
    cases fuel with
    | zero => exact ⟨hr0, h9⟩
    | succ f => exact ⟨fun _ => h9, by rw [hr0]; simp⟩
  intro fuel
  induction fuel with
  | zero =>
    intro L a w hL h
    exact full 0 L a w hL (all_listed hok hL h.1) h.2
  | succ f ih =>
    intro L a w hL h
    by_cases hr : Region.ready md ops L = []
    · exact full (f + 1) L a w hL (all_listed hok hL hr) (h.1 hr)
    · refine ⟨fun h0 => ?_, fun i hi => ?_⟩
      · obtain ⟨i, hi⟩ := List.exists_mem_of_ne_nil _ hr
        have hlt : i < ops.size := by obtain ⟨_, o, ho, _⟩ := mem_ready.1 hi; exact (Array.getElem?_eq_some_iff.1 ho).1
        have := (mem_ready_push hok hL hlt).2 hi
        rw [h0] at this
        cases this
      · have hlt : i < ops.size := by
          obtain ⟨h0, o, ho, _⟩ := mem_ready.1 hi
          have h9 := (Array.getElem?_eq_some_iff.1 ho).1
          rw [Array.size_push] at h9
          rcases Nat.lt_or_ge i ops.size with h8 | h8
          · exact h8
          · have h7 : i = ops.size := by omega
            subst h7
            exact absurd (ready_full ((mem_ready_last hok hL).1 hi)) hr
        have h1 := h.2 i ((mem_ready_push hok hL hlt).1 hi)
        have hset : (L.push false).setIfInBounds i true = (L.setIfInBounds i true).push false := by
          have hLt : i < L.size := by omega
          apply Array.ext_getElem?
          intro j
          by_cases hij : i = j
          · subst hij
            simp [Array.getElem?_push, Array.getElem?_setIfInBounds, hLt, Nat.ne_of_lt hLt]
            try omega
          · rw [Array.getElem?_setIfInBounds_ne hij, Array.getElem?_push, Array.getElem?_push, Array.getElem?_setIfInBounds_ne hij]
            simp
        rw [hset]
        unfold wpOp at h1 ⊢
        rw [Array.getElem?_push_lt hlt]
        rw [Array.getElem?_eq_getElem hlt] at h1
        have hg := (hok.op i ops[i] (Array.getElem?_eq_getElem hlt)).1
        simp only [] at h1 ⊢
        rw [if_pos (by simp [Region.wanted, hg])] at h1 ⊢
        rcases h1 with h1 | ⟨h1, h2⟩
        · exact .inl (Oper.wp_mono (fun a' w' h9 => ih _ a' w' (by simp [hL]) h9) (oper_wp_lastQ h1))
        · exact .inr ⟨h1, h2⟩

/-- THE BEGINNING: S is asked behind every operation but the last. -/
theorem wp_region_lastH {P : Program} {id : Nat} {ops0 : Array Oper} {Q : Exit → Act → World → Prop} {a : Act} {w : World} (S : World → Prop) (ops : Array Oper) (l : Oper) (he : ops0 = ops.push l) (hm : P.follows .mixedOrders = true) (hok : lastOk .any ops l = true)
    (h : wpAnyH P .any ops (LastQ P l Q) S ops.size (Array.replicate ops.size false) a w.drew) : (Code.region id ops0 true).wp P Q a w := by
  subst he
  refine wp_region_any hm ?_
  have h1 := wpAny_last (LastOk.of hok) ops.size (Array.replicate ops.size false) a w.drew (by simp) (wpAny_of_held _ _ _ _ h)
  have h2 : (Array.replicate ops.size false).push false = Array.replicate (ops.push l).size false := by
    rw [Array.size_push, Array.replicate_succ]
  rw [h2] at h1
  rw [Array.size_push]
  rw [Array.size_push] at h1
  exact h1

theorem wp_region_lastP {P : Program} {id : Nat} {ops0 : Array Oper} {Q : Exit → Act → World → Prop} {a : Act} {w : World} (S : World → Prop) (k : Nat) {l : Oper} (hk : ops0.size = k + 1) (hl : ops0[k]? = some l) (hm : P.follows .mixedOrders = true) (hok : lastOk .any ops0.pop l = true) (hS : S w.drew)
    (h : S w.drew → ∀ ops, ops = ops0.pop → wpAnyH P .any ops (LastQ P l Q) S k (Array.replicate k false) a w.drew) : (Code.region id ops0 true).wp P Q a w := by
  have h1 := h hS ops0.pop rfl
  have hs : ops0.pop.size = k := by rw [Array.size_pop, hk]; rfl
  refine wp_region_lastH S ops0.pop l ?_ hm hok (by rw [hs]; exact h1)
  apply Array.ext_getElem?
  intro i
  rw [Array.getElem?_push]
  by_cases hi : i = ops0.pop.size
  · subst hi; rw [hs, hl]; simp
  · rw [if_neg hi, Array.getElem?_pop]
    by_cases h9 : i < ops0.size - 1
    · rw [if_pos h9]
    · rw [if_neg h9, Array.getElem?_eq_none (by omega)]

end Go.Proofs.Ytbkoddikfpkocaa

/- Contracts: copies of rows and tables. -/
namespace Go.Proofs.Ytbkoddikfpkocaa
open Go.RowKit Go.Sort
set_option linter.unusedVariables false
set_option linter.unusedSimpArgs false
set_option synthInstance.maxSize 2000
set_option synthInstance.maxHeartbeats 400000

theorem info_zero {e : TypeId} {z : Value} {size bytes : Nat} (h : (Try.prog.info? e).map (fun i => (i.zero, i.size, i.bytes)) = some (some z, size, bytes)) : ∃ i, Try.prog.info? e = some i ∧ i.zero = some z ∧ i.size = size ∧ i.bytes = bytes := info_parts h

/-- 'append([]int{}, xs...)', xs nil or not. -/
theorem wpList_copyI {W : World} {ops : Array Oper} {rest : List Oper} {o : Oper} {a : Act} {Q : Exit → Act → World → Prop}
    (s x : Operand) (g n c : Nat) (ad : Option Addr) (xs : List Int) (hg : W.heap.size = g) (hi : Ints (W.alloc (.cells #[] 3)) ad n xs) (hn : n ≤ 1000000000000)
    (hgd : o.guard = none) (ho : o.op = .call { callee := .builtin .append, args := #[s, x], argTypes := #[24, 24] })
    (hs : a.eval s = .slice (some ⟨g, 0, none⟩) 0 0) (hx : a.eval x = .slice ad n c)
    (h : ∀ v' w', OwnInts W.heap.size w' v' n xs → Below W.heap.size W w' → W.heap.size < w'.heap.size → wpList Try.prog ops Q rest (a.put o.dst v') w') :
    wpList Try.prog ops Q (o :: rest) a (W.alloc (.cells #[] 3)) := by
  subst hg
  obtain ⟨i, hi0, hz0, hz1, hz2⟩ := info_parts infoInt
  have hown := own_empty (Nat.le_refl W.heap.size)
  have hbl : Below W.heap.size W (W.alloc (.cells #[] 3)) := (Below.refl _ _).alloc (Nat.le_refl _) _
  cases ad with
  | none =>
    have hn0 : n = 0 := by
      rcases Nat.eq_zero_or_pos n with h0 | h0
      · exact h0
      · obtain ⟨b, off, hb, _⟩ := hi.cell 0 h0; simp at hb
    subst hn0
    have hx0 : xs = [] := List.eq_nil_of_length_eq_zero hi.len
    subst hx0
    refine wpList_plain hgd fun K hK => ?_
    have hr : (Builtin.append_ #[24, 24] o.type #[.slice (some ⟨W.heap.size, 0, none⟩) 0 0, .slice none 0 c]).run Try.prog (W.alloc (.cells #[] 3)) = .ok (.slice (some ⟨W.heap.size, 0, none⟩) 0 0) (W.alloc (.cells #[] 3)) := run_append_room_src (P := Try.prog) (W.alloc (.cells #[] 3)) 24 24 o.type 3 i Try.underlying24 hi0 W.heap.size 0 0 0 (.slice none 0 c) 0 [] (Src.ofNil _ Try.underlying24 c) (by omega) (by simp) (by simp)
    unfold Oper.wp execOp
    simp only [ho, resolve, invoke, builtin, Sem.run_bind, Sem.run_pure, Result.andThen_ok, List.map_toArray, List.map_cons, List.map_nil, hs, hx, hr]
    exact hK _ _ (h _ _ hown hbl (by simp))
  | some ad =>
    have hnews : ∀ j u, (xs.map (Value.int .i64))[j]? = some u → (W.alloc (.cells #[] 3)).cell? (ad.add j) = some u := by
      intro j u hu
      rw [List.getElem?_map] at hu
      have hj : j < n := by
        rw [← hi.len]
        rcases Nat.lt_or_ge j xs.length with h1 | h1
        · exact h1
        · rw [List.getElem?_eq_none h1] at hu; simp at hu
      obtain ⟨b, off, hb, hc⟩ := hi.cell j hj
      simp at hb
      subst hb
      rw [List.getD_eq_getElem?_getD] at hc
      rw [List.getElem?_eq_getElem (by rw [hi.len]; exact hj)] at hu hc
      simp at hu
      subst hu
      rw [Addr.add_lit]
      simpa using hc
    refine wpList_append_own _ hgd s x 24 ho W.heap.size 3 i (.int .i64 0) 1 8 Try.underlying24 hi0 hz0 hz1 hz2 rfl (by decide) _ 0 [] hs (by simpa using hown.row) ad n c (xs.map (Value.int .i64)) hx (by simp [hi.len]) hnews (by intro z hz; simp at hz; obtain ⟨y, _, rfl⟩ := hz; rfl) (by unfold maxLen; omega) (by omega) (by simp) ?_
    intro v' w' h1 h2 _
    refine h v' w' ⟨hi.len, by simpa using h1, hi.rng⟩ (hbl.grown h2 (by simp) (fun k hk => by simp [Value.ownBlock] at hk; omega)) ?_
    have := h2.size; simp at this; omega

theorem copyInts_any (v : Value) (xs : List Int) (w : World) (h : rI.rep w [v] xs) (hn : xs.length ≤ 100000000) :
    Calls Try.prog 165 #[v] w fun e w' => ∃ u, e = .returned u ∧ Own oI w.heap.size w'.heap.size w' [u] xs ∧ Below w.heap.size w w' := by
  obtain ⟨a, cap, rfl, _, _, hi⟩ := rI_open h
  have hi2 := hi.below ((Below.refl _ _).alloc (Nat.le_refl _) (.cells #[] 3))
  clear h
  go_enter Try.func165, Try.ntmps165
  go_wp2_with ((at_builtin; refine wpList_copyI _ _ _ _ _ _ xs rfl hi2 (by omega) rfl rfl rfl rfl ?_; intro v' w1 hown hb hsz))
  obtain ⟨a', cap', rfl, _⟩ := own_form hown.row
  go_wp2_with fail
  go_ret
  exact ⟨_, rfl, hown.own, hb⟩

theorem infoI : (Try.prog.info? 24).map (fun i => (i.zero, i.size, i.bytes)) = some (some (.slice none 0 0), 1, 24) := by kernel_rfl

set_option maxHeartbeats 1000000 in
theorem copyRows_any (v : Value) (xss : List (List Int)) (w : World) (h : rII.rep w [v] xss) (hn : bulk_II xss ≤ 100000000) :
    Calls Try.prog 187 #[v] w fun e w' => ∃ u, e = .returned u ∧ Own oII w.heap.size w'.heap.size w' [u] xss ∧ Below w.heap.size w w' := by
  obtain ⟨a, cap, rfl, _, _, t0⟩ := rS_open h
  clear h
  obtain ⟨n, hl⟩ : ∃ n, xss.length = n := ⟨_, rfl⟩
  rw [hl] at t0 ⊢
  have hn1 : n ≤ 100000000 := by unfold bulk_II at hn; omega
  have hrows : ∀ (j : Nat) (r : List Int), xss[j]? = some r → r.length ≤ 100000000 := fun j r hr => by
    have h9 := sumBy_mem bulk_I hr; unfold bulk_II at hn; unfold bulk_I at h9 hn; omega
  have HR := Lib.hid hrows
  clear hn hrows
  have hb0 : Below w.heap.size w w := Below.refl _ _
  go_enter Try.func187, Try.ntmps187
  obtain ⟨w1, hw1⟩ : ∃ W, W = w.alloc (.cells #[] 24) := ⟨_, rfl⟩
  have z1 : Below w.heap.size w w1 := by rw [hw1]; exact (Below.refl _ _).alloc (Nat.le_refl _) _
  have s1 : w1.heap.size = w.heap.size + 1 := by rw [hw1]; simp
  have hb1 := on hb0 z1
  have ho : ∀ S, Acc 24 oI w.heap.size S w1.heap.size w1 (.slice (some ⟨w.heap.size, 0, none⟩) 0 0) [] := fun S => by rw [hw1]; exact Acc.empty (by omega) (by first | (simp; done) | (simp; omega))
  go_wp2_with fail
  rw [← hw1]
  clear hw1
  go_loopw [3, 9] (fun v k wr => ∃ j : Nat, j ≤ n ∧ k = .int .i64 j ∧ Acc 24 oI w.heap.size w1.heap.size wr.heap.size wr v (xss.take j) ∧ Turn w.heap.size (w.heap.size + 1) w1 wr) (fun _ k _ => n - (intOf k).toNat)
  case atStart => exact ⟨0, Nat.zero_le _, rfl, by rw [List.take_zero]; exact (ho _).wide (Nat.le_refl _) (by omega), turn_refl _ _ _⟩
  case round =>
    obtain ⟨j, hj, rfl, hacc, hdr⟩ := hrel
    have hlc := hdr
    have hE0 : w1.heap.size = w.heap.size + 1 := by omega
    clear ho
    have s2 := hdr.size
    have hb2 := hb1.trans ((hdr.below (by omega)).mono (by omega))
    have hlen : (xss.take j).length ≤ j := List.length_take_le _ _
    by_cases hlt : j < n
    · obtain ⟨b0, o0, r1, m1, q1, x, rfl, hc, hx, hi, hq1, hq2⟩ := t0.row hlt
      have hclt : b0 < w.heap.size := cell_lt hc
      have c0 : wr.cell? ⟨b0, o0 + j, none⟩ = some (.slice r1 m1 q1) := (hb2.cell (p := ⟨b0, o0 + j, none⟩) hclt).trans hc
      have hrep : rI.rep w [.slice r1 m1 q1] x := rI_mk hi hq1 hq2
      have HT := Lib.hid (take_snoc' xss j x hx.out)
      have hxl := HR.out j x hx.out
      clear hc hx hi t0 hl hE0
      go_wp2_with fail
      refine (copyInts_any _ x _ (rI.mono hrep hb2) hxl).mono ?_
      rintro e w8 ⟨u, rfl, oy, z8⟩
      obtain ⟨ab, nb, cb, rfl⟩ := oI_form1 oy
      have s3 := z8.size
      have hb3 := on hb2 z8
      replace hlc := hlc.trans (turn_below z8 (Nat.le_refl _))
      replace hacc := hacc.below z8 (by omega)
      replace c0 := (z8.cell (p := ⟨b0, o0 + j, none⟩) (by simp only []; omega)).trans c0
      have hone : ∀ z ∈ [Value.slice ab nb cb], z.oneCell' = true := by intro z hz; simp at hz; subst hz; rfl
      go_wp2_with ((at_builtin; refine wpList_acc Try.underlying32 infoI rfl (by decide) (by decide) rfl _ _ _ _ [.slice ab nb cb] x hacc oy hone (by omega) (by omega) (by omega) (by omega) hlc rfl (by omega) (by omega) rfl rfl rfl rfl rfl ?_; intro v' w1 hacc' ht' hsz'))
      rw [← HT.out] at hacc'
      go_roundw
      case rel => exact ⟨j + 1, by omega, by go_num, hacc', ht'⟩
      case measure => simp [intOf]; omega
    · obtain rfl : j = n := by omega
      obtain ⟨a', n', cap2, rfl⟩ := hacc.form3
      rw [List.take_of_length_le (by omega)] at hacc
      have HO := Lib.hid (hacc.own (B := w.heap.size) (hi' := wr.heap.size) (by omega) (by omega) (by omega))
      clear hacc t0 hl
      go_wp2_with fail
      go_ret
      exact ⟨_, rfl, HO.out, hb2⟩

set_option maxHeartbeats 1000000 in
theorem copyTable_any (cs : List Value) (x : DT) (w : World) (h : rT.rep w cs x) (hn : bulk_T x ≤ 100000000) :
    Calls Try.prog 197 #[.agg cs.toArray] w fun e w' => ∃ ds, e = .returned (.agg ds.toArray) ∧ Own oT w.heap.size w'.heap.size w' ds x ∧ Below w.heap.size w w' := by
  obtain ⟨ub, un, uc, rfl, hs, hi, g1⟩ := rT_open h
  clear h
  obtain ⟨s, i, rows⟩ := x
  simp only at hs hi g1
  have hn2 : bulk_II rows ≤ 100000000 := by unfold bulk_T at hn; simp only at hn; omega
  clear hn
  have hb0 : Below w.heap.size w w := Below.refl _ _
  go_enter Try.func197, Try.ntmps197
  obtain ⟨w1, hw1⟩ : ∃ W, W = w.alloc (.cells #[.string s, .int .i64 i, .slice ub un uc] 34) := ⟨_, rfl⟩
  have z1 : Below w.heap.size w w1 := by rw [hw1]; exact (Below.refl _ _).alloc (Nat.le_refl _) _
  have s1 : w1.heap.size = w.heap.size + 1 := by rw [hw1]; simp
  have hb1 := on hb0 z1
  have b_0 : w1.cell? ⟨w.heap.size, 0, none⟩ = some (.string s) := by rw [hw1]; exact box_cell (Below.refl _ _) rfl
  have b_1 : w1.cell? ⟨w.heap.size, 1, none⟩ = some (.int .i64 i) := by rw [hw1]; exact box_cell (Below.refl _ _) rfl
  have b_2 : w1.cell? ⟨w.heap.size, 2, none⟩ = some (.slice ub un uc) := by rw [hw1]; exact box_cell (Below.refl _ _) rfl
  have b_f0 : w1.frozen? ⟨w.heap.size, 0, none⟩ = false := by rw [hw1]; exact box_frozen (Below.refl _ _)
  have b_f1 : w1.frozen? ⟨w.heap.size, 1, none⟩ = false := by rw [hw1]; exact box_frozen (Below.refl _ _)
  have b_f2 : w1.frozen? ⟨w.heap.size, 2, none⟩ = false := by rw [hw1]; exact box_frozen (Below.refl _ _)
  have raw1_b_0 := b_0
  have raw1_b_1 := b_1
  have raw1_b_2 := b_2
  rw [hw1] at raw1_b_0 raw1_b_1 raw1_b_2
  obtain ⟨w2, hw2⟩ : ∃ W, W = w1.alloc (.cells #[.string ⟨#[]⟩, .int .i64 0, .slice none 0 0] 34) := ⟨_, rfl⟩
  have z2 : Below w1.heap.size w1 w2 := by rw [hw2]; exact (Below.refl _ _).alloc (Nat.le_refl _) _
  have s2 : w2.heap.size = w1.heap.size + 1 := by rw [hw2]; simp
  have hb2 := on hb1 z2
  replace b_0 := (z2.cell (p := ⟨w.heap.size, 0, none⟩) (by simp only []; omega)).trans b_0
  replace b_1 := (z2.cell (p := ⟨w.heap.size, 1, none⟩) (by simp only []; omega)).trans b_1
  replace b_2 := (z2.cell (p := ⟨w.heap.size, 2, none⟩) (by simp only []; omega)).trans b_2
  replace b_f0 := (z2.frozen (p := ⟨w.heap.size, 0, none⟩) (by simp only []; omega)).trans b_f0
  replace b_f1 := (z2.frozen (p := ⟨w.heap.size, 1, none⟩) (by simp only []; omega)).trans b_f1
  replace b_f2 := (z2.frozen (p := ⟨w.heap.size, 2, none⟩) (by simp only []; omega)).trans b_f2
  have e2 : w1.heap.size = w.heap.size + 1 := by omega
  have r_0 : w2.cell? ⟨w1.heap.size, 0, none⟩ = some (.string ⟨#[]⟩) := by rw [hw2]; exact box_cell (Below.refl _ _) rfl
  have r_1 : w2.cell? ⟨w1.heap.size, 1, none⟩ = some (.int .i64 0) := by rw [hw2]; exact box_cell (Below.refl _ _) rfl
  have r_2 : w2.cell? ⟨w1.heap.size, 2, none⟩ = some (.slice none 0 0) := by rw [hw2]; exact box_cell (Below.refl _ _) rfl
  rw [e2] at r_0 r_1 r_2
  have r_f0 : w2.frozen? ⟨w1.heap.size, 0, none⟩ = false := by rw [hw2]; exact box_frozen (Below.refl _ _)
  have r_f1 : w2.frozen? ⟨w1.heap.size, 1, none⟩ = false := by rw [hw2]; exact box_frozen (Below.refl _ _)
  have r_f2 : w2.frozen? ⟨w1.heap.size, 2, none⟩ = false := by rw [hw2]; exact box_frozen (Below.refl _ _)
  rw [e2] at r_f0 r_f1 r_f2
  have raw2_b_0 := b_0
  have raw2_b_1 := b_1
  have raw2_b_2 := b_2
  have raw2_r_0 := r_0
  have raw2_r_1 := r_1
  have raw2_r_2 := r_2
  rw [hw2, hw1] at raw2_b_0 raw2_b_1 raw2_b_2 raw2_r_0 raw2_r_1 raw2_r_2
  go_wp2_with fail
  rw [← hw1]
  rw [← hw2]
  clear hw2 hw1
  clear raw1_b_0 raw1_b_1 raw1_b_2 raw2_b_0 raw2_b_1 raw2_b_2 raw2_r_0 raw2_r_1 raw2_r_2
  refine (copyRows_any _ rows _ (rII.mono g1 hb2) hn2).mono ?_
  rintro e w9 ⟨u, rfl, ho, z9⟩
  obtain ⟨ab, nb, cb, rfl⟩ := oII_form1 ho
  have s3 := z9.size
  have hb3 := on hb2 z9
  replace b_0 := (z9.cell (p := ⟨w.heap.size, 0, none⟩) (by simp only []; omega)).trans b_0
  replace b_1 := (z9.cell (p := ⟨w.heap.size, 1, none⟩) (by simp only []; omega)).trans b_1
  replace b_2 := (z9.cell (p := ⟨w.heap.size, 2, none⟩) (by simp only []; omega)).trans b_2
  replace b_f0 := (z9.frozen (p := ⟨w.heap.size, 0, none⟩) (by simp only []; omega)).trans b_f0
  replace b_f1 := (z9.frozen (p := ⟨w.heap.size, 1, none⟩) (by simp only []; omega)).trans b_f1
  replace b_f2 := (z9.frozen (p := ⟨w.heap.size, 2, none⟩) (by simp only []; omega)).trans b_f2
  replace r_0 := (z9.cell (p := ⟨w.heap.size + 1, 0, none⟩) (by simp only []; omega)).trans r_0
  replace r_1 := (z9.cell (p := ⟨w.heap.size + 1, 1, none⟩) (by simp only []; omega)).trans r_1
  replace r_2 := (z9.cell (p := ⟨w.heap.size + 1, 2, none⟩) (by simp only []; omega)).trans r_2
  replace r_f0 := (z9.frozen (p := ⟨w.heap.size + 1, 0, none⟩) (by simp only []; omega)).trans r_f0
  replace r_f1 := (z9.frozen (p := ⟨w.heap.size + 1, 1, none⟩) (by simp only []; omega)).trans r_f1
  replace r_f2 := (z9.frozen (p := ⟨w.heap.size + 1, 2, none⟩) (by simp only []; omega)).trans r_f2
  go_wp2_with fail
  refine bodyPost_ret (v := .agg #[.string s, .int .i64 i, .slice ab nb cb]) (by simp [results, Try.results197, go_sem, b_0, b_1, b_2, r_0, r_1, r_2, b_f0, b_f1, b_f2, r_f0, r_f1, r_f2]) rfl ⟨_, rfl, ?_, ?_⟩
  · refine oT_mk (x := (s, i, rows)) hs hi (l2 := w2.heap.size) (m2 := w9.heap.size) ?_ (by omega) (by simp [World.setCell])
    repeat (refine Own.setOut ?_ rfl (by simp only []; omega))
    exact ho
  · repeat (refine Below.setCell ?_ (by simp only []; omega) _)
    exact hb3

end Go.Proofs.Ytbkoddikfpkocaa

/- Kind Tl: shape, size, copy, comparison. Written by a program. -/
namespace Go.Proofs.Ytbkoddikfpkocaa
open Go.RowKit
set_option linter.unusedVariables false
set_option linter.unusedSimpArgs false
set_option synthInstance.maxSize 2000
set_option synthInstance.maxHeartbeats 400000

def rTl : RS (List DT) := R.slice rT
def oTl : OS (List DT) := O.slice 34 oT
theorem reads_Tl : Reads oTl rTl := Reads.slice _ reads_T
theorem rTl_form {w : World} {cs : List Value} {xs : List DT} (h : rTl.rep w cs xs) : ∃ b n c, cs = [.slice b n c] := rS_form h
theorem oTl_form1 {lo hi : Nat} {w : World} {v : Value} {xs : List DT} (h : Own oTl lo hi w [v] xs) : ∃ b n c, v = .slice b n c := oS_form1 reads_T h
def bulk_Tl (xs : List DT) : Nat := xs.length + sumBy bulk_T xs

set_option maxHeartbeats 1000000 in
theorem sz_Tl (v : Value) (xs : List DT) (left : Int) (w : World) (h : rTl.rep w [v] xs) (h0 : 0 ≤ left) (h1 : left ≤ 1048576) :
    Calls Try.prog 143 #[v, .int .i64 left] w fun e w' => e = .returned (.int .i64 (szR left (bulk_Tl xs))) ∧ Below w.heap.size w w' := by
  obtain ⟨a, cap, rfl, hn1, hn2, hi⟩ := rS_open h
  clear h
  unfold bulk_Tl
  have hsm := hi.small
  obtain ⟨n, hlen⟩ : ∃ n, xs.length = n := ⟨_, rfl⟩
  rw [hlen] at hi hsm hn1 ⊢
  by_cases hl : (n : Int) ≤ left
  case neg =>
    have HE := Lib.hid (szR_no (sumBy bulk_T xs) hl)
    clear hi
    go_enter Try.func143, Try.ntmps143
    go_wp2_with fail
    go_ret
    exact ⟨ret_int HE.out.symm, Below.refl _ _⟩
  have HE := Lib.hid (szR_add (b := sumBy bulk_T xs) hl)
  go_enter Try.func143, Try.ntmps143
  go_wp2_with fail
  go_loopw [1, 5] (fun l i wr => ∃ (j : Nat) (q : Int), j ≤ n ∧ i = .int .i64 j ∧ l = .int .i64 q ∧ 0 ≤ q ∧ q ≤ 1048576 ∧ Hid (szR left (n + sumBy bulk_T xs) = szR q (sumBy bulk_T (xs.drop j))) ∧ Below w.heap.size w wr) (fun _ i _ => n - (intOf i).toNat)
  case atStart => exact ⟨0, left - n, Nat.zero_le _, rfl, rfl, by omega, by omega, HE.out, Below.refl _ _⟩
  case round =>
    obtain ⟨j, q, hj, rfl, rfl, q0, q1, hE, hb⟩ := hrel
    clear HE
    by_cases hlt : j < n
    · obtain ⟨b, off, cs, x, rfl, hx, hr, hc⟩ := (hi.below hb).at hlt
      obtain ⟨ub2, un2, uc2, rfl⟩ := rT_form hr
      have c0 : wr.cell? ⟨b, off + j * 3, none⟩ = some (.string x.1) := by have h9 := hc 0 _ rfl; rw [← Nat.add_assoc] at h9; exact h9
      have c1 : wr.cell? ⟨b, off + j * 3 + 1, none⟩ = some (.int .i64 x.2.1) := by have h9 := hc 1 _ rfl; rw [← Nat.add_assoc] at h9; exact h9
      have c2 : wr.cell? ⟨b, off + j * 3 + 2, none⟩ = some (.slice ub2 un2 uc2) := by have h9 := hc 2 _ rfl; rw [← Nat.add_assoc] at h9; exact h9
      clear hc
      have HS := hE.out.trans (congrArg (szR q) (sumBy_drop bulk_T hx.out))
      have hcs := szR_cases q (bulk_T x)
      have hcall := sz_T _ x q wr hr q0 q1
      obtain ⟨p, hp⟩ : ∃ p, p = szR q (bulk_T x) := ⟨_, rfl⟩
      rw [← hp] at hcall hcs
      have HC := Lib.hid hcall
      clear hcall hi
      rcases hcs with ⟨rfl, l⟩ | ⟨hp2, l⟩
      · have HE := Lib.hid (HS.trans (szR_no _ l))
        clear hp HS l hE
        go_wp2_with fail
        refine HC.out.mono ?_
        rintro e w1 ⟨rfl, z1⟩
        go_wp2_with fail
        go_ret
        exact ⟨ret_int HE.out.symm, on hb z1⟩
      · have HE := Lib.hid (HS.trans ((szR_add l).trans (by rw [← hp2])) : szR left (n + sumBy bulk_T xs) = szR p (sumBy bulk_T (xs.drop (j + 1))))
        have p0 : 0 ≤ p := by omega
        have p1 : p ≤ 1048576 := by omega
        clear hp hp2 HS l hE
        go_wp2_with fail
        refine HC.out.mono ?_
        rintro e w1 ⟨rfl, z1⟩
        go_wp2_with fail
        go_roundw
        case rel => exact ⟨j + 1, p, by omega, by go_num, rfl, p0, p1, HE, on hb z1⟩
        case measure => simp [intOf]; omega
    · have HE := Lib.hid (hE.out.trans (by rw [sumBy_end _ (by omega)]; unfold szR; rw [if_pos (by omega)]; simp) : szR left (n + sumBy bulk_T xs) = q)
      clear hi hE
      go_wp2_with fail
      go_ret
      exact ⟨ret_int HE.out.symm, hb⟩

set_option maxHeartbeats 2000000 in
set_option maxRecDepth 100000 in
theorem to_Tl (v : Value) (xs : List DT) (w : World) (h : rTl.rep w [v] xs) (hn : bulk_Tl xs ≤ 1048576) :
    Calls Try.prog 145 #[v] w fun e w' => ∃ u, e = .returned u ∧ Own oTl w.heap.size w'.heap.size w' [u] xs ∧ Below w.heap.size w w' := by
  obtain ⟨a, cap, rfl, hn1, hn2, hi⟩ := rS_open h
  clear h
  unfold bulk_Tl at hn
  obtain ⟨n, hlen⟩ : ∃ n, xs.length = n := ⟨_, rfl⟩
  rw [hlen] at hi hn hn1 ⊢
  have hbk : ∀ (j : Nat) x, xs[j]? = some x → bulk_T x ≤ 1048576 := fun j x hx => by have := sumBy_mem bulk_T hx; omega
  have hn3 : n ≤ 100000000 := by omega
  clear hn
  go_enter Try.func145, Try.ntmps145
  go_wp2_with (at_make; refine wpList_mkS (size := 3) (bytes := 48) (z := .agg #[.string ⟨#[]⟩, .int .i64 0, .slice none 0 0]) rfl rfl rfl (by decide) (by decide) oT xs _ _ n hn3 rfl rfl rfl rfl ?_; intro w1 hp1 hb1 hz1)
  go_wp2_with fail
  go_loopw [4] (fun k wr => ∃ j : Nat, j ≤ n ∧ k = .int .i64 j ∧ Part 34 oT [.string ⟨#[]⟩, .int .i64 0, .slice none 0 0] w.heap.size wr w.heap.size n j xs ∧ Below w.heap.size w wr) (fun k _ => n - (intOf k).toNat)
  case atStart => exact ⟨0, Nat.zero_le _, rfl, hp1, hb1⟩
  case round =>
    obtain ⟨j, hj, rfl, hp, hb⟩ := hrel
    clear hp1 hb1
    by_cases hlt : j < n
    · obtain ⟨b, off, cs, x, rfl, hx, hr, hc⟩ := (hi.below hb).at hlt
      obtain ⟨ub2, un2, uc2, rfl⟩ := rT_form hr
      have c0 : wr.cell? ⟨b, off + j * 3, none⟩ = some (.string x.1) := by have h9 := hc 0 _ rfl; rw [← Nat.add_assoc] at h9; exact h9
      have c1 : wr.cell? ⟨b, off + j * 3 + 1, none⟩ = some (.int .i64 x.2.1) := by have h9 := hc 1 _ rfl; rw [← Nat.add_assoc] at h9; exact h9
      have c2 : wr.cell? ⟨b, off + j * 3 + 2, none⟩ = some (.slice ub2 un2 uc2) := by have h9 := hc 2 _ rfl; rw [← Nat.add_assoc] at h9; exact h9
      clear hc
      have hg : w.heap.size < wr.heap.size := by obtain ⟨_, _, _, _, _, _, _, h9⟩ := hp; exact h9
      have HC := Lib.hid (to_T _ x wr hr (hbk j x hx.out))
      have HI := Lib.hid hi
      go_wp2_with fail
      refine HC.out.mono ?_
      rintro e w1 ⟨d, rfl, ho, z1⟩
      obtain ⟨db2, dn2, dc2, rfl⟩ := oT_form ho
      have s1 := z1.size
      have hp1 : Part 34 oT [.string ⟨#[]⟩, .int .i64 0, .slice none 0 0] w.heap.size w1 w.heap.size n j xs := hp.below z1 (Nat.le_refl _)
      obtain ⟨⟨e0, f0⟩, g0⟩ := hp1.cell rfl hlt (by omega) 0 (by decide)
      replace f0 : w1.cell? ⟨w.heap.size, j * 3, none⟩ = some e0 := f0
      replace g0 : w1.frozen? ⟨w.heap.size, j * 3, none⟩ = false := g0
      obtain ⟨⟨e1, f1⟩, g1⟩ := hp1.cell rfl hlt (by omega) 1 (by decide)
      replace f1 : w1.cell? ⟨w.heap.size, j * 3 + 1, none⟩ = some e1 := f1
      replace g1 : w1.frozen? ⟨w.heap.size, j * 3 + 1, none⟩ = false := g1
      obtain ⟨⟨e2, f2⟩, g2⟩ := hp1.cell rfl hlt (by omega) 2 (by decide)
      replace f2 : w1.cell? ⟨w.heap.size, j * 3 + 2, none⟩ = some e2 := f2
      replace g2 : w1.frozen? ⟨w.heap.size, j * 3 + 2, none⟩ = false := g2
      have HP := Lib.hid (hp1.step (cs := [.string x.1, .int .i64 x.2.1, .slice db2 dn2 dc2]) rfl hlt hx.out ho hg ⟨wr, hp, Nat.le_refl _, fun p hp => z1.block p hp⟩ (Nat.le_refl _) (by omega))
      have hb1 := on hb z1
      clear ho hp hp1
      go_wp2_with fail
      go_roundw
      case rel => exact ⟨j + 1, by omega, by go_num, HP.out, (((hb1.setCell (Nat.le_refl _) _).setCell (Nat.le_refl _) _).setCell (Nat.le_refl _) _)⟩
      case measure => simp [intOf]; omega
    · have hjn : j = n := by omega
      subst hjn
      have HO := Lib.hid (hp.done hlen (by omega))
      clear hp hi
      go_wp2_with fail
      go_ret
      exact ⟨_, rfl, HO.out, hb⟩

set_option maxHeartbeats 2000000 in
theorem eq_Tl (u v : Value) (xs ys : List DT) (w : World) (h : rTl.rep w [u] xs) (h' : rTl.rep w [v] ys) :
    Calls Try.prog 147 #[u, v] w fun e w' => e = .returned (.bool (decide (xs = ys))) ∧ Below w.heap.size w w' := by
  obtain ⟨a, cap, rfl, _, _, hi⟩ := rS_open h
  obtain ⟨a', cap', rfl, _, _, hi'⟩ := rS_open h'
  clear h h'
  have hn := hi.small
  have hn' := hi'.small
  obtain ⟨n, hl⟩ : ∃ n, xs.length = n := ⟨_, rfl⟩
  obtain ⟨m, hl'⟩ : ∃ n, ys.length = n := ⟨_, rfl⟩
  rw [hl] at hi hn ⊢
  rw [hl'] at hi' hn' ⊢
  by_cases hnm : n = m
  case neg =>
    have HE := Lib.hid (show decide (xs = ys) = false by simp only [decide_eq_false_iff_not]; intro e; subst e; omega)
    have hne : ((n : Int) != (m : Int)) = true := by rw [bne_iff_ne]; omega
    clear hl hl' hi hi'
    go_enter Try.func147, Try.ntmps147
    go_wp2_with fail
    go_ret
    exact ⟨ret_bool HE.out.symm, Below.refl _ _⟩
  subst hnm
  go_enter Try.func147, Try.ntmps147
  go_wp2_with fail
  go_loopw [5] (fun k wr => ∃ j : Nat, j ≤ n ∧ k = .int .i64 j ∧ Hid (xs.take j = ys.take j) ∧ Below w.heap.size w wr) (fun k _ => n - (intOf k).toNat)
  case atStart => exact ⟨0, Nat.zero_le _, rfl, rfl, Below.refl _ _⟩
  case round =>
    obtain ⟨j, hj, rfl, hE, hb⟩ := hrel
    by_cases hlt : j < n
    · obtain ⟨b, off, cs, x, rfl, hx, hr, hc⟩ := (hi.below hb).at hlt
      obtain ⟨b', off', ds, y, rfl, hy, hr', hd⟩ := (hi'.below hb).at hlt
      obtain ⟨ub2, un2, uc2, rfl⟩ := rT_form hr
      obtain ⟨vb2, vn2, vc2, rfl⟩ := rT_form hr'
      have c0 : wr.cell? ⟨b, off + j * 3, none⟩ = some (.string x.1) := by have h9 := hc 0 _ rfl; rw [← Nat.add_assoc] at h9; exact h9
      have c1 : wr.cell? ⟨b, off + j * 3 + 1, none⟩ = some (.int .i64 x.2.1) := by have h9 := hc 1 _ rfl; rw [← Nat.add_assoc] at h9; exact h9
      have c2 : wr.cell? ⟨b, off + j * 3 + 2, none⟩ = some (.slice ub2 un2 uc2) := by have h9 := hc 2 _ rfl; rw [← Nat.add_assoc] at h9; exact h9
      have d0 : wr.cell? ⟨b', off' + j * 3, none⟩ = some (.string y.1) := by have h9 := hd 0 _ rfl; rw [← Nat.add_assoc] at h9; exact h9
      have d1 : wr.cell? ⟨b', off' + j * 3 + 1, none⟩ = some (.int .i64 y.2.1) := by have h9 := hd 1 _ rfl; rw [← Nat.add_assoc] at h9; exact h9
      have d2 : wr.cell? ⟨b', off' + j * 3 + 2, none⟩ = some (.slice vb2 vn2 vc2) := by have h9 := hd 2 _ rfl; rw [← Nat.add_assoc] at h9; exact h9
      have hcall := fun (W : World) (hW : Below wr.heap.size wr W) => eq_T _ _ x y W (rT.mono hr hW) (rT.mono hr' hW)
      obtain ⟨t, ht⟩ : ∃ t, t = decide (x = y) := ⟨_, rfl⟩
      rw [← ht] at hcall
      have HC := Lib.hid hcall
      clear hcall hi hi' hr hr' hc hd
      have HT : Hid (if t = true then xs.take (j + 1) = ys.take (j + 1) else decide (xs = ys) = false) := by
        cases t
        · simp only [Bool.false_eq_true, if_false]
          have hxy : x ≠ y := by simpa using ht.symm
          simp only [Hid, Bool.false_eq_true, if_false, decide_eq_false_iff_not]; intro e; subst e; exact hxy (Option.some.inj (hx.out.symm.trans hy.out))
        · have hxy : x = y := by simpa using ht.symm
          simp only [Hid, if_true]; rw [take_snoc' xs j x hx.out, take_snoc' ys j y hy.out, hE.out, hxy]
      clear ht hx hy hE
      have lb : b < wr.heap.size := cell_lt c0
      have lb' : b' < wr.heap.size := cell_lt d0
      go_wp2_with fail
      go_region_held3 (fun W => W.cell? ⟨b, off + j * 3, none⟩ = some (.string x.1) ∧ W.cell? ⟨b, off + j * 3 + 1, none⟩ = some (.int .i64 x.2.1) ∧ W.cell? ⟨b, off + j * 3 + 2, none⟩ = some (.slice ub2 un2 uc2) ∧ W.cell? ⟨b', off' + j * 3, none⟩ = some (.string y.1) ∧ W.cell? ⟨b', off' + j * 3 + 1, none⟩ = some (.int .i64 y.2.1) ∧ W.cell? ⟨b', off' + j * 3 + 2, none⟩ = some (.slice vb2 vn2 vc2)) (first | exact ⟨c0, c1, c2, d0, d1, d2⟩ | assumption) ((go_at_call 65; refine (HC.out _ (Below.refl _ _).drew).mono ?_; rintro e w1 ⟨rfl, z1⟩; replace z1 : Below wr.heap.size wr w1 := (Below.refl _ _).drew.trans z1; have hS0 := (⟨(z1.cell (p := ⟨b, off + j * 3, none⟩) (by simp only []; omega)).trans c0, (z1.cell (p := ⟨b, off + j * 3 + 1, none⟩) (by simp only []; omega)).trans c1, (z1.cell (p := ⟨b, off + j * 3 + 2, none⟩) (by simp only []; omega)).trans c2, (z1.cell (p := ⟨b', off' + j * 3, none⟩) (by simp only []; omega)).trans d0, (z1.cell (p := ⟨b', off' + j * 3 + 1, none⟩) (by simp only []; omega)).trans d1, (z1.cell (p := ⟨b', off' + j * 3 + 2, none⟩) (by simp only []; omega)).trans d2⟩ : (fun W => W.cell? ⟨b, off + j * 3, none⟩ = some (.string x.1) ∧ W.cell? ⟨b, off + j * 3 + 1, none⟩ = some (.int .i64 x.2.1) ∧ W.cell? ⟨b, off + j * 3 + 2, none⟩ = some (.slice ub2 un2 uc2) ∧ W.cell? ⟨b', off' + j * 3, none⟩ = some (.string y.1) ∧ W.cell? ⟨b', off' + j * 3 + 1, none⟩ = some (.int .i64 y.2.1) ∧ W.cell? ⟨b', off' + j * 3 + 2, none⟩ = some (.slice vb2 vn2 vc2)) w1)))
      replace z1 : Below wr.heap.size wr w1 := z1
      have z2 := on hb z1
      cases t
      · have HE : Hid (decide (xs = ys) = false) := by simpa [Hid] using HT.out
        go_wp2_with fail
        go_ret
        exact ⟨ret_bool HE.out.symm, z2⟩
      · have HE : Hid (xs.take (j + 1) = ys.take (j + 1)) := by simpa [Hid] using HT.out
        go_wp2_with fail
        go_roundw
        case rel => exact ⟨j + 1, by omega, by go_num, HE.out, z2⟩
        case measure => simp [intOf]; omega
    · have HE := Lib.hid (show decide (xs = ys) = true by
        have e := hE.out
        rw [List.take_of_length_le (by omega), List.take_of_length_le (by omega)] at e
        simp [e])
      clear hi hi' hl hl'
      go_wp2_with fail
      go_ret
      exact ⟨ret_bool HE.out.symm, hb⟩

end Go.Proofs.Ytbkoddikfpkocaa

/- Arguments of kind T opened. Written by a program. -/
namespace Go.Proofs.Ytbkoddikfpkocaa
open Go.ChangeShapes Go.WideShapes Go.ChangeAt Go.RowKit
set_option linter.unusedVariables false
set_option maxRecDepth 100000

theorem opens_T : Opens 67 rT := opens_struct3 Try.underlying67 (by kernel_rfl) rfl rfl rfl (by kernel_rfl) (by kernel_rfl) (by kernel_rfl) opens_str' opens_int opens_II
abbrev kT_in := agg_in rT
theorem open_kT_in {H : Type} {enc : TypeId × Value → H} {W : World} {d : DataW H} {ps : List MemPlace} {v : Value} (hv : Value.okWide Try.prog W .any 0 67 v) (h : DataW.Trod enc Try.prog W 0 (fun _ => true) true 67 v d ps) : kT_in W v :=
  open_agg_in Try.underlying67 opens_T hv h

end Go.Proofs.Ytbkoddikfpkocaa

/- A slice that a region which draws its order appends to. -/
namespace Go.Proofs.Ytbkoddikfpkocaa
open Go.RowKit
set_option linter.unusedVariables false
set_option linter.unusedSimpArgs false

/-- append of one element, run. -/
theorem run_acc {α : Type} {T E size bytes : Nat} {z : Value} (hT : Try.prog.underlying T = some (.slice E)) (hE : (Try.prog.info? E).map (fun i => (i.zero, i.size, i.bytes)) = some (some z, size, bytes)) (hz : z.cells.size = size) (hpos : 0 < size) (hby : bytes ≤ 1000)
    {o' : OS α} (hsz : o'.size = size) {la lo S hi9 h1 h2 : Nat} {W0 W W1 : World} (ty : TypeId)
    (v : Value) (xs : List α) (c : List Value) (y : α)
    (hown : Acc E o' la S hi9 W v xs) (hy : Own o' h1 h2 W c y) (hone : ∀ u ∈ c, u.oneCell' = true) (hS1 : S ≤ h1) (hhi : hi9 ≤ h1) (hh : h1 ≤ h2) (hW : h2 ≤ W.heap.size) (ht : Turn lo (lo + 1) W0 W) (hS : W0.heap.size = S) (hla : la = lo ∨ S ≤ la) (hlW : la ≤ W.heap.size) (hn : xs.length ≤ 100000000)
    (hW1 : W1 = W.alloc (.cells c.toArray E)) :
    ∃ v' w', (Builtin.append_ #[T, T] ty #[v, .slice (some ⟨W.heap.size, 0, none⟩) 1 1]).run Try.prog W1 = .ok v' w' ∧ Acc E o' la S w'.heap.size w' v' (xs ++ [y]) ∧ Turn lo (lo + 1) W0 w' ∧ W.heap.size < w'.heap.size ∧ (∀ k, k < S → k ≠ la → w'.heap[k]? = W.heap[k]?) := by
  subst hW1
  obtain ⟨i, hi, hz0, hz1, hz2⟩ := info_parts hE
  obtain ⟨fp, ⟨v1, css, fps, hv, rfl, hrow, hrows⟩, hnd, hlim⟩ := hown
  obtain ⟨fy, hyr, hynd, hylim⟩ := hy
  have hts := ht.size
  simp at hv
  subst hv
  have hclen : c.length = size := by rw [← hsz]; exact o'.len hyr
  rw [hsz] at hrow
  have hnl := List.nodup_append.1 hnd
  have hnew : Below W.heap.size W (W.alloc (.cells c.toArray E)) := (Below.refl _ _).alloc (Nat.le_refl _) _
  have hrow1 := own_below hrow hnew (Nat.le_refl _)
  have hlt : ∀ k ∈ bl v ++ fps.flatten, k < W.heap.size := fun k hk => by have := (hlim k hk).2; omega
  have hby2 : (xs.length + 1) * bytes ≤ 140737488355328 := Nat.le_trans (Nat.mul_le_mul (show xs.length + 1 ≤ 100000001 by omega) hby) (by decide)
  have hfy : ∀ k ∈ fy, k ∉ bl v ++ fps.flatten := fun k hk hm => by have := (hlim k hm).2; have := hylim k hk; omega
  obtain ⟨v', w', hrun, h3, h4, _, h5⟩ := run_append_own_at (P := Try.prog) (W.alloc (.cells c.toArray E)) 0 T ty E i z size bytes hT hi hz0 hz1 hz2 hz hpos v xs.length css.flatten hrow1 ⟨W.heap.size, 0, none⟩ 1 1 c (by omega) (fresh_cells W c E) hone (by unfold maxLen; omega) hby2 (Nat.zero_le _)
  have hsz' := h4.size
  simp at hsz'
  have hv' : ∀ k ∈ bl v', k ∈ bl v ∨ k = W.heap.size + 1 := by
    intro k hk
    have hk' : v'.ownBlock = some k := by simpa [bl] using hk
    rcases h5 with h5 | h5
    · left; simp only [bl]; rw [← h5, hk']; simp
    · right
      rw [h5] at hk'
      simp at hk'
      omega
  have hkeep : ∀ k, k < W.heap.size → k ∉ bl v → w'.heap[k]? = W.heap[k]? := by
    intro k hk hn
    rw [h4.block k (by simp; omega) (fun e => hn (by simp only [bl]; rw [← e]; simp)), Below.heap_alloc W _ k hk]
  refine ⟨v', w', hrun, ⟨bl v' ++ (fps ++ [fy]).flatten, ⟨v', css ++ [c], fps ++ [fy], rfl, rfl, ?_, ?_⟩, ?_, ?_⟩, ?_, by omega, fun k hk hx => hkeep k (by omega) (fun hb => by have := hlim k (List.mem_append_left _ hb); omega)⟩
  · rw [hsz]; simpa using h3
  · have hk2 : ∀ k, k ∈ fps.flatten ++ fy → w'.heap[k]? = W.heap[k]? := by
      intro k hk
      rcases List.mem_append.1 hk with hk | hk
      · exact hkeep k (hlt k (List.mem_append_right _ hk)) (fun hb => hnl.2.2 k hb k hk rfl)
      · exact hkeep k (by have := hylim k hk; omega) (fun hb => hfy k hk (List.mem_append_left _ hb))
    exact o'.rows_snoc (o'.frame hyr (fun k hk => hk2 k (List.mem_append_right _ hk))) (o'.rows_frame hrows (fun k hk => hk2 k (List.mem_append_left _ hk)))
  · rw [List.flatten_append, List.nodup_append]
    refine ⟨by unfold bl; cases v'.ownBlock <;> simp, ?_, ?_⟩
    · rw [List.nodup_append]
      refine ⟨hnl.2.1, by simpa using hynd, ?_⟩
      intro p hp q hq e
      subst e
      exact hfy p (by simpa using hq) (List.mem_append_right _ hp)
    · intro p hp q hq e
      subst e
      rcases hv' p hp with h8 | h8
      · rcases List.mem_append.1 hq with hq | hq
        · exact hnl.2.2 p h8 p hq rfl
        · exact hfy p (by simpa using hq) (List.mem_append_left _ h8)
      · rcases List.mem_append.1 hq with hq | hq
        · have := hlt p (List.mem_append_right _ hq); omega
        · have := hylim p (by simpa using hq); omega
  · intro k hk
    rcases List.mem_append.1 hk with hk | hk
    · rcases hv' k hk with h8 | h8
      · have := hlim k (List.mem_append_left _ h8); omega
      · have h9 := (h3.lt k (by simpa [bl] using hk)).2
        omega
    · simp only [List.flatten_append, List.mem_append] at hk
      rcases hk with hk | hk
      · have := hlim k (List.mem_append_right _ hk); omega
      · have := hylim k (by simpa using hk); omega
  · refine ⟨h4.os.trans ht.os, h4.tape.trans ht.tape, h4.output.trans ht.output, by omega, fun k hk hx => ?_⟩
    rw [hkeep k (by omega) (fun hb => ?_)]
    · exact ht.block k hk hx
    · have := hlim k (List.mem_append_left _ hb); omega

theorem Turn.setIn {lo hi : Nat} {a w : World} (h : Turn lo hi a w) {p : Addr} (h1 : lo ≤ p.block) (h2 : p.block < hi) (u : Value) : Turn lo hi a (w.setCell p u) := by
  have hb := Below.setCell (B := p.block) (Below.refl _ w) (Nat.le_refl _) u
  exact ⟨hb.os.trans h.os, hb.tape.trans h.tape, hb.output.trans h.output, Nat.le_trans h.size hb.size, fun k hk hx => by rw [Below.heap_setCell _ _ _ _ (by omega)]; exact h.block k hk hx⟩
theorem Acc.setOut {α : Type} {E : TypeId} {o : OS α} {lo S hi hi' : Nat} {w : World} {v : Value} {xs : List α} (h : Acc E o lo S hi w v xs) {p : Addr} (u : Value) (h1 : p.block < S) (h2 : p.block ≠ lo) (hh : hi ≤ hi') : Acc E o lo S hi' (w.setCell p u) v xs := by
  obtain ⟨fp, h3, h4, h5⟩ := h
  exact ⟨fp, (O.slice E o).frame h3 (fun k hk => Below.heap_setCell _ _ _ _ (by have := h5 k hk; omega)), h4, fun k hk => by have := h5 k hk; omega⟩

end Go.Proofs.Ytbkoddikfpkocaa

/- Kind Db: shape, size, copy, comparison. Written by a program. -/
namespace Go.Proofs.Ytbkoddikfpkocaa
open Go.RowKit
set_option linter.unusedVariables false
set_option linter.unusedSimpArgs false
set_option synthInstance.maxSize 2000
set_option synthInstance.maxHeartbeats 400000

abbrev DDb := List DT
def rDb : RS DDb := rTl
def oDb : OS DDb := oTl
theorem reads_Db : Reads oDb rDb := reads_Tl
theorem rDb_open {w : World} {cs : List Value} {x : DDb} (h : rDb.rep w cs x) : ∃ ub0 un0 uc0, cs = [.slice ub0 un0 uc0] ∧ rTl.rep w [.slice ub0 un0 uc0] x := by
  have hr0 := h
  obtain ⟨ub0, un0, uc0, rfl⟩ := rTl_form hr0
  exact ⟨_, _, _, rfl, hr0⟩
theorem rDb_form {w : World} {cs : List Value} {x : DDb} (h : rDb.rep w cs x) : ∃ ub0 un0 uc0, cs = [.slice ub0 un0 uc0] := by
  obtain ⟨ub0, un0, uc0, h1, _⟩ := rDb_open h
  exact ⟨_, _, _, h1⟩
theorem rDb_mk {w : World} {ub0 : Option Addr} {un0 uc0 : Nat} {x : DDb} (h0 : rTl.rep w [.slice ub0 un0 uc0] x) : rDb.rep w [.slice ub0 un0 uc0] x :=
  h0
theorem oDb_form {lo hi : Nat} {w : World} {cs : List Value} {x : DDb} (h : Own oDb lo hi w cs x) : ∃ ub0 un0 uc0, cs = [.slice ub0 un0 uc0] := rDb_form (h.rd reads_Db)

theorem oDb_mk {lo hi l0 m0 : Nat} {w : World} {ub0 : Option Addr} {un0 uc0 : Nat} {x : DDb} (ho0 : Own oTl l0 m0 w [.slice ub0 un0 uc0] x) (a0 : lo ≤ l0) (b0 : m0 ≤ hi)  : Own oDb lo hi w [.slice ub0 un0 uc0] x := by
  obtain ⟨f0, r0, n0, q0⟩ := ho0
  refine ⟨f0, r0, ?_, ?_⟩
  · try simp only [List.nil_append, List.append_nil]
    exact n0
  · intro p hp
    try simp only [List.nil_append, List.append_nil, List.mem_append] at hp
    have := q0 p hp; omega

def bulk_Db (x : DDb) : Nat := bulk_Tl x

set_option maxHeartbeats 1000000 in
theorem sz_Db (cs : List Value) (x : DDb) (left : Int) (w : World) (h : rDb.rep w cs x) (h0 : 0 ≤ left) (h1 : left ≤ 1048576) :
    Calls Try.prog 71 #[.agg cs.toArray, .int .i64 left] w fun e w' => e = .returned (.int .i64 (szR left (bulk_Db x))) ∧ Below w.heap.size w w' := by
  obtain ⟨ub0, un0, uc0, rfl, g0⟩ := rDb_open h
  clear h
  have HE0 : Hid (szR left (bulk_Db x) = szR left (bulk_Tl x)) := rfl
  go_enter Try.func71, Try.ntmps71
  obtain ⟨w1, hw1⟩ : ∃ W, W = w.alloc (.cells #[.slice ub0 un0 uc0] 81) := ⟨_, rfl⟩
  have z1 : Below w.heap.size w w1 := by rw [hw1]; exact (Below.refl _ _).alloc (Nat.le_refl _) _
  have s1 : w1.heap.size = w.heap.size + 1 := by rw [hw1]; simp
  have bp_0 : w1.cell? ⟨w.heap.size, 0, none⟩ = some (.slice ub0 un0 uc0) := by rw [hw1]; exact box_cell (Below.refl _ _) rfl
  have hb1 := z1
  go_wp2_with fail
  rw [← hw1]
  clear hw1
  refine (sz_Tl _ x _ _ (rTl.mono g0 hb1) (by omega) (by omega)).mono ?_
  rintro e w2 ⟨rfl, z2⟩
  have s2 := z2.size
  have hb2 := on hb1 z2
  replace bp_0 := (z2.cell (p := ⟨w.heap.size, 0, none⟩) (by simp only []; omega)).trans bp_0
  obtain ⟨q0, hq0⟩ : ∃ q, q = szR left (bulk_Tl x) := ⟨_, rfl⟩
  rw [← hq0]
  have hc0 := szR_cases left (bulk_Tl x)
  rw [← hq0] at hc0
  clear hq0
  rcases hc0 with ⟨rfl, l0⟩ | ⟨hq0, l0⟩
  · have HE := Lib.hid (HE0.out.trans (szR_no0 l0))
    clear l0
    go_wp2_with fail
    go_ret
    exact ⟨ret_int HE.out.symm, hb2⟩
  have HE1 := Lib.hid (HE0.out.trans ((szR_yes l0).trans (by rw [hq0])) : szR left (bulk_Db x) = q0)
  have p0 : 0 ≤ q0 := by omega
  have p0b : q0 ≤ 1048576 := by omega
  clear hq0 l0
  go_wp2_with fail
  go_ret
  exact ⟨ret_int HE1.out.symm, hb2⟩

set_option maxHeartbeats 2000000 in
theorem to_Db (cs : List Value) (x : DDb) (w : World) (h : rDb.rep w cs x) (hn : bulk_Db x ≤ 1048576) :
    Calls Try.prog 74 #[.agg cs.toArray] w fun e w' => ∃ us, e = .returned (.agg us.toArray) ∧ Own oDb w.heap.size w'.heap.size w' us x ∧ Below w.heap.size w w' := by
  obtain ⟨ub0, un0, uc0, rfl, g0⟩ := rDb_open h
  clear h
  unfold bulk_Db at hn
  have hn0 : bulk_Tl x ≤ 1048576 := by omega
  clear hn
  go_enter Try.func74, Try.ntmps74
  obtain ⟨W0, hW0⟩ : ∃ W, W = ((w.alloc (.cells #[.slice ub0 un0 uc0] 81)).alloc (.cells #[.slice none 0 0] 89)).alloc (.cells #[.slice none 0 0] 89) := ⟨_, rfl⟩
  have hB0 : Below w.heap.size w W0 := by rw [hW0]; exact (((Below.refl _ _).alloc (Nat.le_refl _) _).alloc (by simp) _).alloc (by simp <;> omega) _
  have t0 : W0.heap.size = w.heap.size + 1 + 1 + 1 := by rw [hW0]; simp
  have bp_0 : W0.cell? ⟨w.heap.size, 0, none⟩ = some (.slice ub0 un0 uc0) := by rw [hW0]; simp [go_sem, World.cell?_alloc_past]
  have br_0 : W0.cell? ⟨w.heap.size + 1, 0, none⟩ = some (.slice none 0 0) := by rw [hW0]; simp [go_sem, World.cell?_alloc_past]
  have fr_0 : W0.frozen? ⟨w.heap.size + 1, 0, none⟩ = false := by rw [hW0]; simp [go_sem, World.frozen?_alloc_past]
  have bo_0 : W0.cell? ⟨w.heap.size + 1 + 1, 0, none⟩ = some (.slice none 0 0) := by rw [hW0]; simp [go_sem, World.cell?_alloc_past]
  have fo_0 : W0.frozen? ⟨w.heap.size + 1 + 1, 0, none⟩ = false := by rw [hW0]; simp [go_sem, World.frozen?_alloc_past]
  go_wp2_with fail
  rw [← hW0]
  clear hW0
  refine (to_Tl _ x _ (rTl.mono g0 hB0) hn0).mono ?_
  rintro e w1 ⟨a0, rfl, ho0, z1⟩
  have s1 := z1.size
  obtain ⟨ab0, an0, ac0, rfl⟩ := oTl_form1 ho0
  have q1 := on hB0 z1
  replace bp_0 := (z1.cell (p := ⟨w.heap.size, 0, none⟩) (by simp only []; omega)).trans bp_0
  replace br_0 := (z1.cell (p := ⟨w.heap.size + 1, 0, none⟩) (by simp only []; omega)).trans br_0
  replace fr_0 := (z1.frozen (p := ⟨w.heap.size + 1, 0, none⟩) (by simp only []; omega)).trans fr_0
  replace bo_0 := (z1.cell (p := ⟨w.heap.size + 1 + 1, 0, none⟩) (by simp only []; omega)).trans bo_0
  replace fo_0 := (z1.frozen (p := ⟨w.heap.size + 1 + 1, 0, none⟩) (by simp only []; omega)).trans fo_0
  go_wp2_with fail
  refine bodyPost_ret (v := .agg #[.slice ab0 an0 ac0]) (by simp [results, Try.results74, go_sem, br_0, bo_0, fr_0, fo_0]) rfl ⟨_, rfl, ?_, ?_⟩
  · skip
    have hS0 : ∀ (W : World) (p : Addr) (u : Value), p.block < w.heap.size + 1 + 1 + 1 → Own oTl W0.heap.size w1.heap.size W [.slice ab0 an0 ac0] x → Own oTl W0.heap.size w1.heap.size (W.setCell p u) [.slice ab0 an0 ac0] x := fun W p u hp k9 => k9.setOut rfl (by omega)
    exact oDb_mk (hS0 _ _ _ (by simp <;> omega) (hS0 _ _ _ (by simp <;> omega) ho0)) (by omega) (by simp [World.setCell] <;> omega) 
  · exact ((q1.setCell (by simp <;> omega) _).setCell (by simp <;> omega) _)

set_option maxHeartbeats 2000000 in
theorem eq_Db (cs ds : List Value) (x y : DDb) (w : World) (h : rDb.rep w cs x) (h' : rDb.rep w ds y) :
    Calls Try.prog 77 #[.agg cs.toArray, .agg ds.toArray] w fun e w' => e = .returned (.bool (decide (x = y))) ∧ Below w.heap.size w w' := by
  obtain ⟨ub0, un0, uc0, rfl, g0⟩ := rDb_open h
  obtain ⟨vb0, vn0, vc0, rfl, k0⟩ := rDb_open h'
  clear h h'
  have hb1 : Below w.heap.size w ((w.alloc (.cells #[.slice ub0 un0 uc0] 89)).alloc (.cells #[.slice vb0 vn0 vc0] 89)) := ((Below.refl _ _).alloc (Nat.le_refl _) _).alloc (by simp) _
  go_enter Try.func77, Try.ntmps77
  obtain ⟨w1, hw1⟩ : ∃ W, W = (w.alloc (.cells #[.slice ub0 un0 uc0] 89)).alloc (.cells #[.slice vb0 vn0 vc0] 89) := ⟨_, rfl⟩
  have s1 : w1.heap.size = w.heap.size + 1 + 1 := by rw [hw1]; simp
  rw [← hw1] at hb1
  have bc_0 : w1.cell? ⟨w.heap.size, 0, none⟩ = some (.slice ub0 un0 uc0) := by rw [hw1]; simp [go_sem, World.cell?_alloc_past]
  have bd_0 : w1.cell? ⟨w.heap.size + 1, 0, none⟩ = some (.slice vb0 vn0 vc0) := by rw [hw1]; simp [go_sem, World.cell?_alloc_past]
  go_wp2_with fail
  rw [← hw1]
  clear hw1
  refine (eq_Tl _ _ x y _ (rTl.mono g0 hb1) (rTl.mono k0 hb1)).mono ?_
  rintro e w2 ⟨rfl, z2⟩
  have s2 := z2.size
  have hb2 := on hb1 z2
  replace bc_0 := (z2.cell (p := ⟨w.heap.size, 0, none⟩) (by simp only []; omega)).trans bc_0
  replace bd_0 := (z2.cell (p := ⟨w.heap.size + 1, 0, none⟩) (by simp only []; omega)).trans bd_0
  by_cases e0 : x = y
  case neg =>
    have HE := Lib.hid (show decide (x = y) = false by simp only [decide_eq_false_iff_not]; intro h9; exact e0 (by rw [h9]))
    have hne : decide (x = y) = false := by simpa using e0
    rw [hne]
    clear e0 hne
    go_wp2_with fail
    go_ret
    exact ⟨ret_bool HE.out.symm, hb2⟩
  have E0 := Lib.hid e0
  have hq0 : decide (x = y) = true := by simpa using e0
  rw [hq0]
  clear e0 hq0
  have HE := Lib.hid (show decide (x = y) = true by simp only [decide_eq_true_eq]; exact E0.out)
  go_wp2_with fail
  go_ret
  exact ⟨ret_bool HE.out.symm, hb2⟩

end Go.Proofs.Ytbkoddikfpkocaa

/- Marks of slices of tables. Written by a program. -/
namespace Go.Proofs.Ytbkoddikfpkocaa
open Go.RowKit
set_option linter.unusedVariables false
set_option linter.unusedSimpArgs false
set_option synthInstance.maxSize 2000
set_option synthInstance.maxHeartbeats 400000

def cntE_T (x : DT) : Nat := 1 + 1 + cntSS x.2.2
def mkE_T (k : Int) (x : DT) : DT := (mtext k.toNat, (k + 1), mkSS (k + 1 + 1) x.2.2)

def cnt_Tl (xs : List DT) : Nat := sumBy cntE_T xs
def mk_Tl (k : Int) (xs : List DT) : List DT := mkL mkE_T cntE_T k xs

set_option maxHeartbeats 2000000 in
theorem markR_Tl (a : Option Addr) (n cap : Nat) (xs : List DT) (fp : List Nat) (k : Int) (w : World) (h : oTl.rep w [.slice a n cap] xs fp) (hfp : fp.Nodup)
    (k0 : 1 ≤ k) (k1 : k + cnt_Tl xs ≤ 1000000000) (hb : bulk_Tl xs ≤ 100000000) :
    Calls Try.prog 151 #[.slice a n cap, .int .i64 k] w fun e w' => e = .returned (.int .i64 (k + cnt_Tl xs)) ∧ oTl.rep w' [.slice a n cap] (mk_Tl k xs) fp ∧ Alt fp w w' := by
  have hl : xs.length = n := oS_len1 h
  have hsm : n ≤ 100000000 := by unfold bulk_Tl at hb; omega
  have hbs : sumBy bulk_T xs ≤ 100000000 := by unfold bulk_Tl at hb; omega
  clear hb
  unfold cnt_Tl at *
  go_enter Try.func151, Try.ntmps151
  go_wp2
  go_loopw [1, 5] (fun q i wr => ∃ j : Nat, j ≤ n ∧ i = .int .i64 j ∧ q = .int .i64 (k + sumBy cntE_T (xs.take j)) ∧ Hid (oTl.rep wr [.slice a n cap] (mkLTo mkE_T cntE_T k xs j) fp) ∧ Alt fp w wr)
    (fun _ i _ => n - (intOf i).toNat)
  case atStart => exact ⟨0, Nat.zero_le _, rfl, by simp [sumBy], Lib.hid (by rw [mkLTo_zero]; exact h), Alt.refl _ _⟩
  case round =>
    obtain ⟨j, hj, rfl, rfl, hown, hk⟩ := hrel
    clear h
    by_cases hlt : j < n
    · obtain ⟨r, hr⟩ : ∃ r, xs[j]? = some r := ⟨_, List.getElem?_eq_getElem (by omega)⟩
      have HLT := Lib.hid (oTl.lt hown.out)
      obtain ⟨g, c, f, pre, post, E, rfl, hgm, hgf, hgl, hrep, hfn, hfs, hpre, hg, hset⟩ := slice_at hown.out hfp (mkLTo_get mkE_T cntE_T k xs j r hr)
      obtain ⟨c0, d0, p0, q0, rfl, rfl, ⟨rfl, hs0, rfl⟩, ⟨c1, d1, p1, q1, rfl, rfl, ⟨rfl, hs1, rfl⟩, t2⟩⟩ := hrep
      obtain ⟨a2, n2, rfl⟩ := oS_len t2
      have hgf2 : g ∉ q1 := fun h9 => hgf (by simp [h9])
      simp only [List.nodup_append, List.nil_append, List.append_nil] at hfn
      have hn2 : q1.Nodup := by first | exact hfn | exact hfn.1 | exact hfn.2.1 | exact hfn.2.1.1 | exact hfn.2.1.2.1
      replace hpre : pre.length = j * 3 := hpre
      obtain ⟨q, hq⟩ : ∃ q : Nat, q = sumBy cntE_T (xs.take j) := ⟨_, rfl⟩
      have hq2 := sumBy_take cntE_T hr
      have hle2 := sumBy_le cntE_T hr
      have hcnt : cntE_T r = 1 + 1 + cntSS r.2.2 := rfl
      rw [← hq] at hle2 hq2 ⊢
      rw [hcnt] at hle2 hq2
      have HQ := Lib.hid hq
      have HQ2 := Lib.hid hq2
      have HR := Lib.hid hr
      have HS := Lib.hid hset
      have HP := Lib.hid hpre
      have HL := Lib.hid hl
      have HF := Lib.hid hgf
      replace hg : wr.heap[g]? = some (.cells (pre ++ ([Value.string r.1, Value.int .i64 r.2.1, Value.slice a2 r.2.2.length n2] ++ post)).toArray E) := hg
      have hsm2 : r.2.2.length ≤ 100000000 := by have h9 := sumBy_mem bulk_T hr; simp only [bulk_T, bulk_II] at h9; omega
      have HK := Lib.hid hk
      clear hset hown hl hr hq hq2 hcnt hpre hgf hfn hk
      have A0 := Alt.refl (g :: ([] ++ ([] ++ q1))) wr
      have u0_0 : wr.cell? ⟨g, j * 3, none⟩ = some (Value.string r.1) := at_cell hg HP.out (j := 0) rfl
      have u0_1 : wr.cell? ⟨g, j * 3 + 1, none⟩ = some (Value.int .i64 r.2.1) := at_cell hg HP.out (j := 1) rfl
      have u0_2 : wr.cell? ⟨g, j * 3 + 2, none⟩ = some (Value.slice a2 r.2.2.length n2) := at_cell hg HP.out (j := 2) rfl
      have uf0 := fun i => at_frozen hg i
      have uz0_0 := uf0 (j * 3)
      have uz0_1 := uf0 (j * 3 + 1)
      have uz0_2 := uf0 (j * 3 + 2)
      clear uf0
      go_wp2_with fail
      clear u0_0 u0_1 u0_2 uz0_0 uz0_1 uz0_2
      refine (markText_int _ _ (by omega) (by omega)).mono ?_
      rintro e w1 ⟨rfl, z1⟩
      have hg1 := (z1.block g (Array.getElem?_eq_some_iff.1 hg).1).trans hg
      have A1 := A0.trans (Alt.below z1)
      replace t2 := oII.frame t2 (fun p9 hp9 => z1.block p9 (oII.lt t2 p9 hp9))
      clear z1
      have u1_0 : w1.cell? ⟨g, j * 3, none⟩ = some (Value.string r.1) := at_cell hg1 HP.out (j := 0) rfl
      have u1_1 : w1.cell? ⟨g, j * 3 + 1, none⟩ = some (Value.int .i64 r.2.1) := at_cell hg1 HP.out (j := 1) rfl
      have u1_2 : w1.cell? ⟨g, j * 3 + 2, none⟩ = some (Value.slice a2 r.2.2.length n2) := at_cell hg1 HP.out (j := 2) rfl
      have uf1 := fun i => at_frozen hg1 i
      have uz1_0 := uf1 (j * 3)
      have uz1_1 := uf1 (j * 3 + 1)
      have uz1_2 := uf1 (j * 3 + 2)
      clear uf1
      go_wp2_with fail
      obtain ⟨w2, hw2⟩ : ∃ W, W = w1.setCell ⟨g, j * 3, none⟩ (Value.string (mtext (k + (q : Int)).toNat)) := ⟨_, rfl⟩
      rw [← hw2]
      have hg2 : w2.heap[g]? = some (.cells (pre ++ ([Value.string (mtext (k + (q : Int)).toNat), Value.int .i64 r.2.1, Value.slice a2 r.2.2.length n2] ++ post)).toArray E) := by rw [hw2]; exact at_set hg1 HP.out (j := 0) (by simp) _
      have A2 : Alt _ wr w2 := A1.trans (by rw [hw2]; exact Alt.set (by simp) _)
      replace t2 := oII.frame (w' := w2) t2 (fun p9 hp9 => by rw [hw2]; exact Below.heap_setCell _ _ _ _ (fun e => hgf2 ((show p9 = g from e) ▸ hp9)))
      obtain ⟨w3, hw3⟩ : ∃ W, W = w2.setCell ⟨g, j * 3 + 1, none⟩ (Value.int .i64 (k + (q : Int) + 1)) := ⟨_, rfl⟩
      rw [← hw3]
      have hg3 : w3.heap[g]? = some (.cells (pre ++ ([Value.string (mtext (k + (q : Int)).toNat), Value.int .i64 (k + (q : Int) + 1), Value.slice a2 r.2.2.length n2] ++ post)).toArray E) := by rw [hw3]; exact at_set hg2 HP.out (j := 1) (by simp) _
      have A3 : Alt _ wr w3 := A2.trans (by rw [hw3]; exact Alt.set (by simp) _)
      replace t2 := oII.frame (w' := w3) t2 (fun p9 hp9 => by rw [hw3]; exact Below.heap_setCell _ _ _ _ (fun e => hgf2 ((show p9 = g from e) ▸ hp9)))
      clear u1_0 u1_1 u1_2 uz1_0 uz1_1 uz1_2 hw3 hw2
      refine (markII a2 r.2.2.length n2 r.2.2 q1 _ _ t2 hn2 (by omega) (by omega) (by omega)).mono ?_
      rintro e w4 ⟨rfl, t2, z4⟩
      have hg4 := (z4.block g hgf2).trans hg3
      have A4 := A3.trans ((Alt.only z4).mono (by simp <;> (intros; simp [*])))
      clear z4
      have u4_0 : w4.cell? ⟨g, j * 3, none⟩ = some (Value.string (mtext (k + (q : Int)).toNat)) := at_cell hg4 HP.out (j := 0) rfl
      have u4_1 : w4.cell? ⟨g, j * 3 + 1, none⟩ = some (Value.int .i64 (k + (q : Int) + 1)) := at_cell hg4 HP.out (j := 1) rfl
      have u4_2 : w4.cell? ⟨g, j * 3 + 2, none⟩ = some (Value.slice a2 r.2.2.length n2) := at_cell hg4 HP.out (j := 2) rfl
      have uf4 := fun i => at_frozen hg4 i
      have uz4_0 := uf4 (j * 3)
      have uz4_1 := uf4 (j * 3 + 1)
      have uz4_2 := uf4 (j * 3 + 2)
      clear uf4
      go_wp2_with fail
      have HO : Hid (oTl.rep w4 [.slice (some ⟨g, 0, none⟩) n cap] (mkLTo mkE_T cntE_T k xs (j + 1)) fp) := by
        have h7 := HS.out w4 (mkE_T (k + (q : Int)) r) [Value.string (mtext (k + (q : Int)).toNat), Value.int .i64 (k + (q : Int) + 1), Value.slice a2 r.2.2.length n2] ⟨[Value.string (mtext (k + (q : Int)).toNat)], [Value.int .i64 (k + (q : Int) + 1), Value.slice a2 r.2.2.length n2], [], _, rfl, rfl, ⟨rfl, mtext_size _ (by omega), rfl⟩, ⟨[Value.int .i64 (k + (q : Int) + 1)], [Value.slice a2 r.2.2.length n2], [], _, rfl, rfl, ⟨rfl, ⟨by show (-9223372036854775808 : Int) ≤ k + (q : Int) + 1; omega, by show k + (q : Int) + 1 ≤ (9223372036854775807 : Int); omega⟩, rfl⟩, t2⟩⟩ hg4 (fun k h8 h9 h10 => A4.block k (HLT.out k h8) (by simp only [List.mem_cons, not_or]; exact ⟨h9, h10⟩))
        rw [HQ.out, mkLTo_step mkE_T cntE_T k xs j r HR.out] at h7
        exact h7
      have hk2 := HK.out.trans (A4.mono (fun k h8 => by
        rcases List.mem_cons.1 h8 with h9 | h9
        · exact h9 ▸ hgm
        · exact hfs k h9))
      clear u4_0 u4_1 u4_2 uz4_0 uz4_1 uz4_2
      clear t2
      go_roundw
      case rel => exact ⟨j + 1, by omega, by go_num, by rw [HQ2.out]; go_num, HO, hk2⟩
      case measure => simp [intOf]; omega
    · obtain rfl : j = n := by omega
      have HO := hown.out
      rw [mkLTo_all mkE_T cntE_T k xs hl] at HO
      have HO' := Lib.hid HO
      have he : (xs.take j) = xs := List.take_of_length_le (by omega)
      rw [he]
      clear HO hown hl he
      go_wp2
      go_ret
      exact ⟨rfl, HO'.out, hk⟩

theorem mark_Tl (u : Value) (xs : List DT) (k : Int) (lo hi : Nat) (w : World) (h : Own oTl lo hi w [u] xs) (hh : hi ≤ w.heap.size) (k0 : 1 ≤ k) (k1 : k + cnt_Tl xs ≤ 1000000000) (hb : bulk_Tl xs ≤ 100000000) :
    Calls Try.prog 151 #[u, .int .i64 k] w fun e w' => e = .returned (.int .i64 (k + cnt_Tl xs)) ∧ Own oTl lo hi w' [u] (mk_Tl k xs) ∧ Turn lo hi w w' := by
  obtain ⟨fp, h1, h2, h3⟩ := h
  obtain ⟨a, cap, hv⟩ := oS_len h1
  simp at hv
  subst hv
  exact (markR_Tl a _ cap xs fp k w h1 h2 k0 k1 hb).mono fun e w' ⟨he, h4, h5⟩ => ⟨he, ⟨fp, h4, h2, h3⟩, h5.turn h3⟩

theorem cnt_le_Tl (xs : List DT) : cnt_Tl xs ≤ 2 * bulk_Tl xs :=
  sumBy_two (fun x => by simp only [cntE_T, bulk_T, bulk_I, bulk_II]; have h2 := cntSS_le x.2.2; omega) xs

end Go.Proofs.Ytbkoddikfpkocaa

/- Arguments of kind Tl opened. Written by a program. -/
namespace Go.Proofs.Ytbkoddikfpkocaa
open Go.ChangeShapes Go.WideShapes Go.ChangeAt Go.RowKit
set_option linter.unusedVariables false
set_option maxRecDepth 100000

theorem opens_Tl : Opens 79 rTl := opens_slice Try.underlying79 (by kernel_rfl) (by decide) opens_T
def kTl_in (w : World) (v : Value) : Prop := ∃ u xs, v = u ∧ rTl.rep w [u] xs
theorem open_kTl_in {H : Type} {enc : TypeId × Value → H} {W : World} {d : DataW H} {ps : List MemPlace} {v : Value} (hv : Value.okWide Try.prog W .any 0 79 v) (h : DataW.Trod enc Try.prog W 0 (fun _ => true) true 79 v d ps) : kTl_in W v := by
  obtain ⟨a, l, c, rfl⟩ := okWide_slice Try.underlying79 hv
  obtain ⟨fuel, hf⟩ := h
  obtain ⟨xs, hx⟩ := opens_Tl H enc W fuel _ _ hf
  exact ⟨_, xs, rfl, by simpa [Value.cells] using hx⟩

end Go.Proofs.Ytbkoddikfpkocaa

/- Contracts: the copy of a table, of the reference. -/
namespace Go.Proofs.Ytbkoddikfpkocaa
open Go.RowKit Go.Sort
set_option linter.unusedVariables false
set_option linter.unusedSimpArgs false
set_option synthInstance.maxSize 2000
set_option synthInstance.maxHeartbeats 400000

/-- A builtin append at a step of a region that draws, by its run. -/
theorem step_app {ops : Array Oper} {o : Oper} {a : Act} {K : Act → World → Prop} {Q : Exit → Act → World → Prop} {E : Prop} {w w' : World} {s x : Operand} {t t' : TypeId} {vs vx v' : Value}
    {ty : TypeId} (hrun : (Builtin.append_ #[t, t'] ty #[vs, vx]).run Try.prog w = .ok v' w') (hty : o.type = ty) (hgd : o.guard = none)
    (ho : o.op = .call { callee := .builtin .append, args := #[s, x], argTypes := #[t, t'] }) (hs : a.eval s = vs) (hx : a.eval x = vx)
    (h : K (a.put o.dst v') w') :
    if Region.wanted o (yielded ops a.tmps) = true then Oper.wp Try.prog o a w K Q else E := by
  have hw : Region.wanted o (yielded ops a.tmps) = true := by simp [Region.wanted, hgd]
  rw [if_pos hw]
  unfold Oper.wp execOp
  simp only [ho, resolve, invoke, builtin, Sem.run_bind, Sem.run_pure, Result.andThen_ok, List.map_toArray, List.map_cons, List.map_nil, hs, hx, hty, hrun]
  exact h

theorem cell_ad {w : World} {o : Obj} {p : Addr} {v : Value} (h : w.cell? p = some v) : (w.alloc o).cell? p = some v :=
  (((Below.refl _ _).alloc (Nat.le_refl _) o).cell (p := p) (World.block_lt_of_cell? w p h)).trans h
theorem cell_add {w : World} {o : Obj} {p : Addr} {v : Value} (h : w.cell? p = some v) : (w.alloc o).drew.cell? p = some v :=
  (((Below.refl _ _).alloc (Nat.le_refl _) o).drew.cell (p := p) (World.block_lt_of_cell? w p h)).trans h
/-- What a cell holds. -/
def valAt (W : World) (p : Addr) : Value := (W.cell? p).getD undef
theorem valAt_eq {W : World} {p : Addr} {v : Value} (h : W.cell? p = some v) : valAt W p = v := by unfold valAt; rw [h]; rfl
theorem valAt_of {W : World} {p : Addr} {v : Value} (h : W.cell? p = some v) : W.cell? p = some (valAt W p) := by rw [valAt_eq h, h]
theorem valAt_set {W : World} {p q : Addr} {u v : Value} (h : W.cell? q = some v) : (W.setCell p u).cell? q = some (valAt (W.setCell p u) q) := by
  obtain ⟨v', h'⟩ := cell?_setCell_some (p := p) (x := u) h
  exact valAt_of h'
theorem cell_set {W : World} {p q : Addr} {u v : Value} (h : W.cell? q = some v) (hne : q.block ≠ p.block) : (W.setCell p u).cell? q = some v :=
  (World.cell?_of_block (a := q) (Below.heap_setCell _ _ _ _ hne)).trans h
/-- 'append([]int{}, xs...)', run. -/
theorem run_copyI (W W1 : World) (ty : TypeId) (n c : Nat) (ad : Option Addr) (xs : List Int) (hi : Ints W ad n xs) (hn : n ≤ 1000000000000) (hW1 : W1 = W.alloc (.cells #[] 3)) :
    ∃ v' w', (Builtin.append_ #[24, 24] ty #[.slice (some ⟨W.heap.size, 0, none⟩) 0 0, .slice ad n c]).run Try.prog W1 = .ok v' w' ∧ Own oI W.heap.size w'.heap.size w' [v'] xs ∧ Below W.heap.size W w' ∧ W.heap.size < w'.heap.size := by
  subst hW1
  obtain ⟨i, hi0, hz0, hz1, hz2⟩ := info_parts infoInt
  have hown := own_empty (Nat.le_refl W.heap.size)
  have hbl : Below W.heap.size W (W.alloc (.cells #[] 3)) := (Below.refl _ _).alloc (Nat.le_refl _) _
  replace hi := hi.below hbl
  cases ad with
  | none =>
    have hn0 : n = 0 := by
      rcases Nat.eq_zero_or_pos n with h0 | h0
      · exact h0
      · obtain ⟨b, off, hb, _⟩ := hi.cell 0 h0; simp at hb
    subst hn0
    have hx0 : xs = [] := List.eq_nil_of_length_eq_zero hi.len
    subst hx0
    have hr : (Builtin.append_ #[24, 24] ty #[.slice (some ⟨W.heap.size, 0, none⟩) 0 0, .slice none 0 c]).run Try.prog (W.alloc (.cells #[] 3)) = .ok (.slice (some ⟨W.heap.size, 0, none⟩) 0 0) (W.alloc (.cells #[] 3)) := run_append_room_src (P := Try.prog) (W.alloc (.cells #[] 3)) 24 24 ty 3 i Try.underlying24 hi0 W.heap.size 0 0 0 (.slice none 0 c) 0 [] (Src.ofNil _ Try.underlying24 c) (by omega) (by simp) (by simp)
    exact ⟨_, _, hr, hown.own, hbl, by simp⟩
  | some ad =>
    have hnews : ∀ j u, (xs.map (Value.int .i64))[j]? = some u → (W.alloc (.cells #[] 3)).cell? (ad.add j) = some u := by
      intro j u hu
      rw [List.getElem?_map] at hu
      have hj : j < n := by
        rw [← hi.len]
        rcases Nat.lt_or_ge j xs.length with h1 | h1
        · exact h1
        · rw [List.getElem?_eq_none h1] at hu; simp at hu
      obtain ⟨b, off, hb, hc⟩ := hi.cell j hj
      simp at hb
      subst hb
      rw [List.getD_eq_getElem?_getD] at hc
      rw [List.getElem?_eq_getElem (by rw [hi.len]; exact hj)] at hu hc
      simp at hu
      subst hu
      rw [Addr.add_lit]
      simpa using hc
    obtain ⟨v', w', hrun, h1, h2, _⟩ := run_append_own_at (P := Try.prog) (W.alloc (.cells #[] 3)) W.heap.size 24 ty 3 i (.int .i64 0) 1 8 Try.underlying24 hi0 hz0 hz1 hz2 rfl (by decide) _ 0 [] (by simpa using hown.row) ad n c (xs.map (Value.int .i64)) (by simp [hi.len]) hnews (by intro z hz; simp at hz; obtain ⟨y, _, rfl⟩ := hz; rfl) (by unfold maxLen; omega) (by omega) (by simp)
    refine ⟨v', w', hrun, (OwnInts.own ⟨hi.len, by simpa using h1, hi.rng⟩), hbl.grown h2 (by simp) (fun k hk => by simp [Value.ownBlock] at hk; omega), ?_⟩
    have := h2.size; simp at this; omega

set_option maxRecDepth 100000 in
set_option maxHeartbeats 2000000 in
theorem l4Copy_any (cs : List Value) (x : DT) (w : World) (h : rT.rep w cs x) (hn : bulk_T x ≤ 100000000) :
    Calls Try.prog 193 #[.agg cs.toArray] w fun e w' => ∃ ds, e = .returned (.agg ds.toArray) ∧ Own oT w.heap.size w'.heap.size w' ds x ∧ Below w.heap.size w w' := by
  obtain ⟨ub, un, uc, rfl, hs, hi, g1⟩ := rT_open h
  clear h
  obtain ⟨s, i, rows⟩ := x
  simp only at hs hi g1
  have hn2 : bulk_II rows ≤ 100000000 := by unfold bulk_T at hn; simp only at hn; omega
  clear hn
  have t0 := rS_sl g1
  have hl := t0.len
  have hn1 : un ≤ 100000000 := by unfold bulk_II at hn2; omega
  have hrows : ∀ (j : Nat) (r : List Int), rows[j]? = some r → r.length ≤ 100000000 := fun j r hr => by
    have h9 := sumBy_mem bulk_I hr; unfold bulk_II at hn2; unfold bulk_I at h9 hn2; omega
  have HR := Lib.hid hrows
  clear hrows hn2
  have hb0 : Below w.heap.size w w := Below.refl _ _
  go_enter Try.func193, Try.ntmps193
  obtain ⟨w1, hw1⟩ : ∃ W, W = w.alloc (.cells #[.string s, .int .i64 i, .slice ub un uc] 34) := ⟨_, rfl⟩
  have z1 : Below w.heap.size w w1 := by rw [hw1]; exact (Below.refl _ _).alloc (Nat.le_refl _) _
  have s1 : w1.heap.size = w.heap.size + 1 := by rw [hw1]; simp
  have hb1 := on hb0 z1
  have b_0 : w1.cell? ⟨w.heap.size, 0, none⟩ = some (.string s) := by rw [hw1]; exact box_cell (Below.refl _ _) rfl
  have b_1 : w1.cell? ⟨w.heap.size, 1, none⟩ = some (.int .i64 i) := by rw [hw1]; exact box_cell (Below.refl _ _) rfl
  have b_2 : w1.cell? ⟨w.heap.size, 2, none⟩ = some (.slice ub un uc) := by rw [hw1]; exact box_cell (Below.refl _ _) rfl
  have b_f0 : w1.frozen? ⟨w.heap.size, 0, none⟩ = false := by rw [hw1]; exact box_frozen (Below.refl _ _)
  have b_f1 : w1.frozen? ⟨w.heap.size, 1, none⟩ = false := by rw [hw1]; exact box_frozen (Below.refl _ _)
  have b_f2 : w1.frozen? ⟨w.heap.size, 2, none⟩ = false := by rw [hw1]; exact box_frozen (Below.refl _ _)
  have raw1_b_0 := b_0
  have raw1_b_1 := b_1
  have raw1_b_2 := b_2
  rw [hw1] at raw1_b_0 raw1_b_1 raw1_b_2
  obtain ⟨w2, hw2⟩ : ∃ W, W = w1.alloc (.cells #[.string ⟨#[]⟩, .int .i64 0, .slice none 0 0] 34) := ⟨_, rfl⟩
  have z2 : Below w1.heap.size w1 w2 := by rw [hw2]; exact (Below.refl _ _).alloc (Nat.le_refl _) _
  have s2 : w2.heap.size = w1.heap.size + 1 := by rw [hw2]; simp
  have hb2 := on hb1 z2
  replace b_0 := (z2.cell (p := ⟨w.heap.size, 0, none⟩) (by simp only []; omega)).trans b_0
  replace b_1 := (z2.cell (p := ⟨w.heap.size, 1, none⟩) (by simp only []; omega)).trans b_1
  replace b_2 := (z2.cell (p := ⟨w.heap.size, 2, none⟩) (by simp only []; omega)).trans b_2
  replace b_f0 := (z2.frozen (p := ⟨w.heap.size, 0, none⟩) (by simp only []; omega)).trans b_f0
  replace b_f1 := (z2.frozen (p := ⟨w.heap.size, 1, none⟩) (by simp only []; omega)).trans b_f1
  replace b_f2 := (z2.frozen (p := ⟨w.heap.size, 2, none⟩) (by simp only []; omega)).trans b_f2
  have e2 : w1.heap.size = w.heap.size + 1 := by omega
  have r_0 : w2.cell? ⟨w1.heap.size, 0, none⟩ = some (.string ⟨#[]⟩) := by rw [hw2]; exact box_cell (Below.refl _ _) rfl
  have r_1 : w2.cell? ⟨w1.heap.size, 1, none⟩ = some (.int .i64 0) := by rw [hw2]; exact box_cell (Below.refl _ _) rfl
  have r_2 : w2.cell? ⟨w1.heap.size, 2, none⟩ = some (.slice none 0 0) := by rw [hw2]; exact box_cell (Below.refl _ _) rfl
  rw [e2] at r_0 r_1 r_2
  have r_f0 : w2.frozen? ⟨w1.heap.size, 0, none⟩ = false := by rw [hw2]; exact box_frozen (Below.refl _ _)
  have r_f1 : w2.frozen? ⟨w1.heap.size, 1, none⟩ = false := by rw [hw2]; exact box_frozen (Below.refl _ _)
  have r_f2 : w2.frozen? ⟨w1.heap.size, 2, none⟩ = false := by rw [hw2]; exact box_frozen (Below.refl _ _)
  rw [e2] at r_f0 r_f1 r_f2
  have raw2_b_0 := b_0
  have raw2_b_1 := b_1
  have raw2_b_2 := b_2
  have raw2_r_0 := r_0
  have raw2_r_1 := r_1
  have raw2_r_2 := r_2
  rw [hw2, hw1] at raw2_b_0 raw2_b_1 raw2_b_2 raw2_r_0 raw2_r_1 raw2_r_2
  obtain ⟨w3, hw3⟩ : ∃ W, W = w2.alloc (.cells #[.string s, .int .i64 i, .slice none 0 0] 34) := ⟨_, rfl⟩
  have z3 : Below w2.heap.size w2 w3 := by rw [hw3]; exact (Below.refl _ _).alloc (Nat.le_refl _) _
  have s3 : w3.heap.size = w2.heap.size + 1 := by rw [hw3]; simp
  have hb3 := on hb2 z3
  replace b_0 := (z3.cell (p := ⟨w.heap.size, 0, none⟩) (by simp only []; omega)).trans b_0
  replace b_1 := (z3.cell (p := ⟨w.heap.size, 1, none⟩) (by simp only []; omega)).trans b_1
  replace b_2 := (z3.cell (p := ⟨w.heap.size, 2, none⟩) (by simp only []; omega)).trans b_2
  replace b_f0 := (z3.frozen (p := ⟨w.heap.size, 0, none⟩) (by simp only []; omega)).trans b_f0
  replace b_f1 := (z3.frozen (p := ⟨w.heap.size, 1, none⟩) (by simp only []; omega)).trans b_f1
  replace b_f2 := (z3.frozen (p := ⟨w.heap.size, 2, none⟩) (by simp only []; omega)).trans b_f2
  replace r_0 := (z3.cell (p := ⟨w.heap.size + 1, 0, none⟩) (by simp only []; omega)).trans r_0
  replace r_1 := (z3.cell (p := ⟨w.heap.size + 1, 1, none⟩) (by simp only []; omega)).trans r_1
  replace r_2 := (z3.cell (p := ⟨w.heap.size + 1, 2, none⟩) (by simp only []; omega)).trans r_2
  replace r_f0 := (z3.frozen (p := ⟨w.heap.size + 1, 0, none⟩) (by simp only []; omega)).trans r_f0
  replace r_f1 := (z3.frozen (p := ⟨w.heap.size + 1, 1, none⟩) (by simp only []; omega)).trans r_f1
  replace r_f2 := (z3.frozen (p := ⟨w.heap.size + 1, 2, none⟩) (by simp only []; omega)).trans r_f2
  have e3 : w2.heap.size = w.heap.size + 1 + 1 := by omega
  have x_0 : w3.cell? ⟨w2.heap.size, 0, none⟩ = some (.string s) := by rw [hw3]; exact box_cell (Below.refl _ _) rfl
  have x_1 : w3.cell? ⟨w2.heap.size, 1, none⟩ = some (.int .i64 i) := by rw [hw3]; exact box_cell (Below.refl _ _) rfl
  have x_2 : w3.cell? ⟨w2.heap.size, 2, none⟩ = some (.slice none 0 0) := by rw [hw3]; exact box_cell (Below.refl _ _) rfl
  rw [e3] at x_0 x_1 x_2
  have x_f0 : w3.frozen? ⟨w2.heap.size, 0, none⟩ = false := by rw [hw3]; exact box_frozen (Below.refl _ _)
  have x_f1 : w3.frozen? ⟨w2.heap.size, 1, none⟩ = false := by rw [hw3]; exact box_frozen (Below.refl _ _)
  have x_f2 : w3.frozen? ⟨w2.heap.size, 2, none⟩ = false := by rw [hw3]; exact box_frozen (Below.refl _ _)
  rw [e3] at x_f0 x_f1 x_f2
  have raw3_b_0 := b_0
  have raw3_b_1 := b_1
  have raw3_b_2 := b_2
  have raw3_r_0 := r_0
  have raw3_r_1 := r_1
  have raw3_r_2 := r_2
  have raw3_x_0 := x_0
  have raw3_x_1 := x_1
  have raw3_x_2 := x_2
  rw [hw3, hw2, hw1] at raw3_b_0 raw3_b_1 raw3_b_2 raw3_r_0 raw3_r_1 raw3_r_2 raw3_x_0 raw3_x_1 raw3_x_2
  go_wp2_with fail
  rw [← hw1]
  rw [← hw2]
  rw [← hw3]
  clear hw3 hw2 hw1
  clear raw1_b_0 raw1_b_1 raw1_b_2 raw2_b_0 raw2_b_1 raw2_b_2 raw2_r_0 raw2_r_1 raw2_r_2 raw3_b_0 raw3_b_1 raw3_b_2 raw3_r_0 raw3_r_1 raw3_r_2 raw3_x_0 raw3_x_1 raw3_x_2
  go_loopw [4] (fun k wr => ∃ (j : Nat) (v : Value), j ≤ un ∧ k = .int .i64 j ∧ wr.cell? ⟨w.heap.size + 1 + 1, 0, none⟩ = some (.string s) ∧ wr.cell? ⟨w.heap.size + 1 + 1, 1, none⟩ = some (.int .i64 i) ∧ wr.cell? ⟨w.heap.size + 1 + 1, 2, none⟩ = some v ∧ wr.frozen? ⟨w.heap.size + 1 + 1, 2, none⟩ = false ∧ Acc 24 oI w3.heap.size w3.heap.size wr.heap.size wr v (rows.take j) ∧ Turn (w.heap.size + 1 + 1) (w.heap.size + 1 + 1 + 1) w3 wr) (fun k _ => un - (intOf k).toNat)
  case atStart => exact ⟨0, _, Nat.zero_le _, rfl, x_0, x_1, x_2, x_f2, Acc.nil, turn_refl _ _ _⟩
  case round =>
    obtain ⟨j, v, hj, rfl, hv0, hv1, hv, hf, hacc, hdr⟩ := hrel
    have hlc := hdr
    have hE0 : w3.heap.size = w.heap.size + 3 := by omega
    obtain ⟨va, vn, vc, rfl⟩ := hacc.form3
    clear x_0 x_1 x_2 x_f0 x_f1 x_f2
    have s4 := hdr.size
    have hb4 := hb3.trans ((hdr.below (by omega)).mono (by omega))
    replace b_0 := (hdr.cell (p := ⟨w.heap.size, 0, none⟩) (by simp only []; omega) (by simp only []; omega)).trans b_0
    replace b_1 := (hdr.cell (p := ⟨w.heap.size, 1, none⟩) (by simp only []; omega) (by simp only []; omega)).trans b_1
    replace b_2 := (hdr.cell (p := ⟨w.heap.size, 2, none⟩) (by simp only []; omega) (by simp only []; omega)).trans b_2
    replace b_f0 := (World.frozen?_of_block (a := ⟨w.heap.size, 0, none⟩) (hdr.block _ (by simp only []; omega) (by simp only []; omega))).trans b_f0
    replace b_f1 := (World.frozen?_of_block (a := ⟨w.heap.size, 1, none⟩) (hdr.block _ (by simp only []; omega) (by simp only []; omega))).trans b_f1
    replace b_f2 := (World.frozen?_of_block (a := ⟨w.heap.size, 2, none⟩) (hdr.block _ (by simp only []; omega) (by simp only []; omega))).trans b_f2
    replace r_0 := (hdr.cell (p := ⟨w.heap.size + 1, 0, none⟩) (by simp only []; omega) (by simp only []; omega)).trans r_0
    replace r_1 := (hdr.cell (p := ⟨w.heap.size + 1, 1, none⟩) (by simp only []; omega) (by simp only []; omega)).trans r_1
    replace r_2 := (hdr.cell (p := ⟨w.heap.size + 1, 2, none⟩) (by simp only []; omega) (by simp only []; omega)).trans r_2
    replace r_f0 := (World.frozen?_of_block (a := ⟨w.heap.size + 1, 0, none⟩) (hdr.block _ (by simp only []; omega) (by simp only []; omega))).trans r_f0
    replace r_f1 := (World.frozen?_of_block (a := ⟨w.heap.size + 1, 1, none⟩) (hdr.block _ (by simp only []; omega) (by simp only []; omega))).trans r_f1
    replace r_f2 := (World.frozen?_of_block (a := ⟨w.heap.size + 1, 2, none⟩) (hdr.block _ (by simp only []; omega) (by simp only []; omega))).trans r_f2
    have y_0 : wr.cell? ⟨w.heap.size + 1 + 1, 0, none⟩ = some (.string s) := hv0
    have y_1 : wr.cell? ⟨w.heap.size + 1 + 1, 1, none⟩ = some (.int .i64 i) := hv1
    have y_2 : wr.cell? ⟨w.heap.size + 1 + 1, 2, none⟩ = some (.slice va vn vc) := hv
    have hlen : (rows.take j).length ≤ j := List.length_take_le _ _
    by_cases hlt : j < un
    · obtain ⟨b1, o1, ra, rn, rc, t, rfl, hc, hx, hri, hq1, hq2⟩ := t0.row hlt
      have hclt : b1 < w.heap.size := cell_lt hc
      have e_0 : wr.cell? ⟨b1, o1 + j, none⟩ = some (.slice ra rn rc) := (hb4.cell (p := ⟨b1, o1 + j, none⟩) hclt).trans hc
      have HT := Lib.hid (take_snoc' rows j t hx.out)
      have hxl := HR.out j t hx.out
      clear hx hc t0 hl g1
      go_wp2_with fail
      have hri2 := (hri.below hb4).below (Below.refl wr.heap.size wr).drew
      have htl : t.length ≤ 100000000 := hxl
      have hrn : rn ≤ 100000000 := by rw [← hri.len]; exact hxl
      refine wp_region_noPanic ?_
      refine wp_region_lastP (fun W => W.cell? ⟨w.heap.size, 2, none⟩ = some (.slice (some ⟨b1, o1, none⟩) un uc) ∧ W.cell? ⟨w.heap.size + 1 + 1, 2, none⟩ = some (.slice va vn vc) ∧ W.cell? ⟨b1, o1 + j, none⟩ = some (.slice ra rn rc)) 12 (by kernel_rfl) rfl (by kernel_rfl) (by kernel_rfl) ?hS (fun hHeld ops hops => ?_)
      case hS => exact ⟨b_2, y_2, e_0⟩
      simp only [List.pop_toArray, List.dropLast_cons_cons, List.dropLast_singleton] at hops
      subst hops
      refine wpAnyH_take (i := 0) (v := ?v0) rfl (by kernel_rfl) (by kernel_rfl) (by kernel_rfl) (fun _ _ _ h => h) (Or.inl ⟨by rfl, ?hy0⟩) (by assumption) ?rest0
      case hy0 => intro w hSw; (try dsimp only at hSw); go_simp; (try with_reducible rfl)
      try simp only [Act.put, List.setIfInBounds_toArray, List.set_cons_zero, List.set_cons_succ]
      refine wpAnyH_take (i := 1) (v := ?v1) rfl (by kernel_rfl) (by kernel_rfl) (by kernel_rfl) (fun _ _ _ h => h) (Or.inl ⟨by rfl, ?hy1⟩) (by assumption) ?rest1
      case hy1 => intro w hSw; (try dsimp only at hSw); go_simp; (try with_reducible rfl)
      try simp only [Act.put, List.setIfInBounds_toArray, List.set_cons_zero, List.set_cons_succ]
      refine wpAnyH_take (i := 3) (v := ?v3) rfl (by kernel_rfl) (by kernel_rfl) (by kernel_rfl) (fun _ _ _ h => h) (Or.inl ⟨by rfl, ?hy3⟩) (by assumption) ?rest3
      case hy3 => intro w hSw; (try dsimp only at hSw); go_simp; (try with_reducible rfl)
      try simp only [Act.put, List.setIfInBounds_toArray, List.set_cons_zero, List.set_cons_succ]
      refine wpAnyH_take (i := 4) (v := ?v4) rfl (by kernel_rfl) (by kernel_rfl) (by kernel_rfl) (fun _ _ _ h => h) (Or.inl ⟨by rfl, ?hy4⟩) (by assumption) ?rest4
      case hy4 => intro w hSw; (try dsimp only at hSw); go_simp; (try with_reducible rfl)
      try simp only [Act.put, List.setIfInBounds_toArray, List.set_cons_zero, List.set_cons_succ]
      refine wpAnyH_take (i := 5) (v := ?v5) rfl (by kernel_rfl) (by kernel_rfl) (by kernel_rfl) (fun _ _ _ h => h) (Or.inl ⟨by rfl, ?hy5⟩) (by assumption) ?rest5
      case hy5 => intro w hSw; (try dsimp only at hSw); go_simp; (try with_reducible rfl)
      try simp only [Act.put, List.setIfInBounds_toArray, List.set_cons_zero, List.set_cons_succ]
      refine wpAnyH_take (i := 6) (v := ?v6) rfl (by kernel_rfl) (by kernel_rfl) (by kernel_rfl) (fun _ _ _ h => h) (Or.inl ⟨by rfl, ?hy6⟩) (by assumption) ?rest6
      case hy6 => intro w hSw; (try dsimp only at hSw); go_simp; (try with_reducible rfl)
      try simp only [Act.put, List.setIfInBounds_toArray, List.set_cons_zero, List.set_cons_succ]
      refine wpAnyH_take (i := 7) (v := ?v7) rfl (by kernel_rfl) (by kernel_rfl) (by kernel_rfl) (fun _ _ _ h => h) (Or.inl ⟨by rfl, ?hy7⟩) (by assumption) ?rest7
      case hy7 => intro w hSw; (try dsimp only at hSw); go_simp; (try with_reducible rfl)
      try simp only [Act.put, List.setIfInBounds_toArray, List.set_cons_zero, List.set_cons_succ]
      refine wpAnyH_ready (rs := [2]) (by kernel_rfl) (by simp) ?_
      refine AllReadyH.cons rfl (fun K hK => ?_) AllReadyH.nil
      go_simp
      refine hK.out _ _ ?_ (fun hHeld => ?_)
      · exact ⟨cell_add b_2, cell_add y_2, cell_add e_0⟩
      clear hK K
      try simp only [Act.put, List.setIfInBounds_toArray, List.set_cons_zero, List.set_cons_succ]
      refine wpAnyH_ready (rs := [8]) (by kernel_rfl) (by simp) ?_
      refine AllReadyH.cons rfl (fun K hK => ?_) AllReadyH.nil
      obtain ⟨v1, w1, hr1, ho1, hbw, hsz1⟩ := run_copyI wr.drew (wr.alloc (.cells #[] 3)).drew 24 rn rc ra t hri2 (by omega) rfl
      refine step_app hr1 (by rfl) (by rfl) (by rfl) (by rfl) (by rfl) ?_
      obtain ⟨a1, n1, c1, rfl⟩ := oI_form1 ho1
      have hb5 : Below wr.heap.size wr w1 := (Below.refl _ _).drew.trans hbw
      have hS1 := (⟨(hb5.cell (p := ⟨w.heap.size, 2, none⟩) (by simp only []; omega)).trans b_2, (hb5.cell (p := ⟨w.heap.size + 1 + 1, 2, none⟩) (by simp only []; omega)).trans y_2, (hb5.cell (p := ⟨b1, o1 + j, none⟩) (by simp only []; omega)).trans e_0⟩ : (fun W => W.cell? ⟨w.heap.size, 2, none⟩ = some (.slice (some ⟨b1, o1, none⟩) un uc) ∧ W.cell? ⟨w.heap.size + 1 + 1, 2, none⟩ = some (.slice va vn vc) ∧ W.cell? ⟨b1, o1 + j, none⟩ = some (.slice ra rn rc)) w1)
      have ho2 : Own oI wr.heap.size w1.heap.size w1 [.slice a1 n1 c1] t := ho1
      have hsz3 : wr.heap.size < w1.heap.size := hsz1
      refine hK.out _ _ ?_ (fun hHeld => ?_)
      · exact hS1
      clear hK K
      try simp only [Act.put, List.setIfInBounds_toArray, List.set_cons_zero, List.set_cons_succ]
      refine wpAnyH_ready (rs := [9]) (by kernel_rfl) (by simp) ?_
      refine AllReadyH.cons rfl (fun K hK => ?_) AllReadyH.nil
      go_simp
      refine hK.out _ _ ?_ (fun hHeld => ?_)
      · exact ⟨cell_ad hS1.1, cell_ad hS1.2.1, cell_ad hS1.2.2⟩
      clear hK K
      try simp only [Act.put, List.setIfInBounds_toArray, List.set_cons_zero, List.set_cons_succ]
      refine wpAnyH_ready (rs := [10]) (by kernel_rfl) (by simp) ?_
      refine AllReadyH.cons rfl (fun K hK => ?_) AllReadyH.nil
      obtain ⟨v2, w2, hr2, hacc2, ht2, hsz2, hk2⟩ := run_acc Try.underlying32 infoI rfl (by decide) (by decide) rfl 32 (.slice va vn vc) (rows.take j) [.slice a1 n1 c1] t (hacc.below hb5 (Nat.le_refl _)) ho2 (by intro z hz; simp at hz; subst hz; rfl) s4 (Nat.le_refl _) (by omega) (Nat.le_refl _) (hlc.trans (turn_below hb5 (Nat.le_refl _))) rfl (.inr (Nat.le_refl _)) (by omega) (by omega) rfl
      refine step_app hr2 (by rfl) (by rfl) (by rfl) (by rfl) (by rfl) ?_
      obtain ⟨a2, n2, c2, rfl⟩ := hacc2.form3
      have hS2 := (⟨(World.cell?_of_block (a := ⟨w.heap.size, 2, none⟩) (hk2 _ (by simp only []; omega) (by simp only []; omega))).trans hS1.1, (World.cell?_of_block (a := ⟨w.heap.size + 1 + 1, 2, none⟩) (hk2 _ (by simp only []; omega) (by simp only []; omega))).trans hS1.2.1, (World.cell?_of_block (a := ⟨b1, o1 + j, none⟩) (hk2 _ (by simp only []; omega) (by simp only []; omega))).trans hS1.2.2⟩ : (fun W => W.cell? ⟨w.heap.size, 2, none⟩ = some (.slice (some ⟨b1, o1, none⟩) un uc) ∧ W.cell? ⟨w.heap.size + 1 + 1, 2, none⟩ = some (.slice va vn vc) ∧ W.cell? ⟨b1, o1 + j, none⟩ = some (.slice ra rn rc)) w2)
      have y_d := hS2.2.1
      have hf2 : w2.frozen? ⟨w.heap.size + 1 + 1, 2, none⟩ = false := (World.frozen?_of_block (a := ⟨w.heap.size + 1 + 1, 2, none⟩) (hk2 _ (by simp only []; omega) (by simp only []; omega))).trans ((hb5.frozen (p := ⟨w.heap.size + 1 + 1, 2, none⟩) (by simp only []; omega)).trans hf)
      refine hK.out _ _ ?_ (fun hHeld => ?_)
      · exact hS2
      clear hK K
      try simp only [Act.put, List.setIfInBounds_toArray, List.set_cons_zero, List.set_cons_succ]
      refine wpAnyH_take (i := 11) (v := ?v11) rfl (by kernel_rfl) (by kernel_rfl) (by kernel_rfl) (fun _ _ _ h => h) (Or.inl ⟨by rfl, ?hy11⟩) (by assumption) ?rest11
      case hy11 => intro w hSw; (try dsimp only at hSw); go_simp; (try with_reducible rfl)
      try simp only [Act.put, List.setIfInBounds_toArray, List.set_cons_zero, List.set_cons_succ]
      refine wpAnyH_done (by kernel_rfl) ?_ _
      simp only [LastQ]
      go_simp
      refine NoPanic.normal ?_
      have y_0d : w2.cell? ⟨w.heap.size + 1 + 1, 0, none⟩ = some (.string s) := (World.cell?_of_block (a := ⟨w.heap.size + 1 + 1, 0, none⟩) (hk2 _ (by simp only []; omega) (by simp only []; omega))).trans ((hb5.cell (p := ⟨w.heap.size + 1 + 1, 0, none⟩) (by simp only []; omega)).trans y_0)
      have y_1d : w2.cell? ⟨w.heap.size + 1 + 1, 1, none⟩ = some (.int .i64 i) := (World.cell?_of_block (a := ⟨w.heap.size + 1 + 1, 1, none⟩) (hk2 _ (by simp only []; omega) (by simp only []; omega))).trans ((hb5.cell (p := ⟨w.heap.size + 1 + 1, 1, none⟩) (by simp only []; omega)).trans y_1)
      rw [← HT.out] at hacc2
      have hacc3 := hacc2.setOut (p := ⟨w.heap.size + 1 + 1, 2, none⟩) (hi' := (w2.setCell ⟨w.heap.size + 1 + 1, 2, none⟩ (.slice a2 n2 c2)).heap.size) (.slice a2 n2 c2) (by simp only []; omega) (by simp only []; omega) (by simp [World.setCell])
      have ht3 := ht2.setIn (p := ⟨w.heap.size + 1 + 1, 2, none⟩) (by simp) (by simp) (.slice a2 n2 c2)
      have k0 : (w2.setCell ⟨w.heap.size + 1 + 1, 2, none⟩ (.slice a2 n2 c2)).cell? ⟨w.heap.size + 1 + 1, 0, none⟩ = some (.string s) := by go_simp
      have k1 : (w2.setCell ⟨w.heap.size + 1 + 1, 2, none⟩ (.slice a2 n2 c2)).cell? ⟨w.heap.size + 1 + 1, 1, none⟩ = some (.int .i64 i) := by go_simp
      have k2 : (w2.setCell ⟨w.heap.size + 1 + 1, 2, none⟩ (.slice a2 n2 c2)).cell? ⟨w.heap.size + 1 + 1, 2, none⟩ = some (.slice a2 n2 c2) := by go_simp
      have k3 : (w2.setCell ⟨w.heap.size + 1 + 1, 2, none⟩ (.slice a2 n2 c2)).frozen? ⟨w.heap.size + 1 + 1, 2, none⟩ = false := by go_simp
      go_wp2_with fail
      refine ⟨⟨j + 1, .slice a2 n2 c2, by omega, by go_num, k0, k1, k2, k3, hacc3, ht3⟩, ?_⟩
      simp [intOf]; omega
    · obtain rfl : j = un := by omega
      rw [List.take_of_length_le (by omega)] at hacc
      go_wp2_with fail
      refine bodyPost_ret (v := .agg #[.string s, .int .i64 i, .slice va vn vc]) (by simp [results, Try.results193, go_sem, y_0, y_1, y_2, r_0, r_1, r_2, r_f0, r_f1, r_f2]) rfl ⟨_, rfl, ?_, ?_⟩
      · refine oT_mk (x := (s, i, rows)) hs hi (l2 := w.heap.size + 1 + 1 + 1) (m2 := wr.heap.size) ?_ (by omega) (by simp [World.setCell])
        repeat (refine Own.setOut ?_ rfl (by simp only []; omega))
        exact hacc.own (by omega) (by omega) (Nat.le_refl _)
      · repeat (refine Below.setCell ?_ (by simp only []; omega) _)
        exact hb4

end Go.Proofs.Ytbkoddikfpkocaa

/- Marks of databases. Written by a program. -/
namespace Go.Proofs.Ytbkoddikfpkocaa
open Go.RowKit
set_option linter.unusedVariables false
set_option linter.unusedSimpArgs false
set_option synthInstance.maxSize 2000
set_option synthInstance.maxHeartbeats 400000

def cnt_Db (x : DDb) : Nat := cnt_Tl x
def mk_Db (k : Int) (x : DDb) : DDb := mk_Tl k x
theorem cnt_le_Db (x : DDb) : cnt_Db x ≤ 2 * bulk_Db x := by
  have h0 := cnt_le_Tl x
  simp only [cnt_Db, bulk_Db]; omega

set_option maxHeartbeats 1000000 in
theorem mark_Db (us : List Value) (x : DDb) (k : Int) (lo hi : Nat) (w : World) (h : Own oDb lo hi w us x) (hh : hi ≤ w.heap.size) (k0 : 1 ≤ k) (k1 : k + cnt_Db x ≤ 1000000000) (hb : bulk_Db x ≤ 100000000) :
    Calls Try.prog 80 #[.agg us.toArray, .int .i64 k] w fun e w' => e = .returned (.int .i64 (k + cnt_Db x)) ∧ Own oDb lo hi w' us (mk_Db k x) ∧ Turn lo hi w w' := by
  obtain ⟨fp, hrep, hfn, hfr⟩ := h
  have t0 := hrep
  obtain ⟨a0, n0, rfl⟩ := oS_len t0
  have HN := Lib.hid hfn
  have HFR := Lib.hid hfr
  try simp only [List.nodup_append, List.nil_append, List.append_nil] at hfn
  have hn0 : fp.Nodup := by first | exact hfn | exact hfn.1 | exact hfn.2.1 | exact hfn.2.1.1 | exact hfn.2.1.2.1
  have hlt0 : ∀ p9, p9 ∈ fp → p9 < w.heap.size := fun p9 hp9 => by have := hfr p9 (by simp [hp9]); omega
  simp only [cnt_Db, bulk_Db] at *
  clear hfn hfr
  go_enter Try.func80, Try.ntmps80
  obtain ⟨w1, hw1⟩ : ∃ W, W = w.alloc (.cells #[.slice a0 x.length n0] 89) := ⟨_, rfl⟩
  have z1 : Below w.heap.size w w1 := by rw [hw1]; exact (Below.refl _ _).alloc (Nat.le_refl _) _
  have A1 := Alt.below (fp := fp) z1
  have c0 : w1.cell? ⟨w.heap.size, 0, none⟩ = some (.slice a0 x.length n0) := by rw [hw1]; exact box_cell (Below.refl _ _) rfl
  replace t0 := oTl.frame t0 (fun p9 hp9 => z1.block p9 (hlt0 p9 hp9))
  have hz1 := z1.size
  go_wp2_with fail
  rw [← hw1]
  clear hw1 z1
  refine (markR_Tl a0 x.length n0 x fp _ _ t0 hn0 (by omega) (by omega) (by omega)).mono ?_
  rintro e w2 ⟨rfl, t0, z2⟩
  have A2 := A1.trans (z2.mono (fq := fp) (fun p9 hp9 => by simp [hp9]))
  clear z2
  have HR : Hid (Own oDb lo hi w2 [.slice a0 x.length n0] (mk_Db k x) ∧ Turn lo hi w w2) := ⟨⟨_, t0, HN.out, HFR.out⟩, A2.turn HFR.out⟩
  clear t0 A1 A2
  go_wp2_with fail
  go_ret
  exact ⟨ret_int (by simp only [cnt_I, cnt_II] <;> omega), HR.out⟩

end Go.Proofs.Ytbkoddikfpkocaa

/- Arguments of kind Db opened. Written by a program. -/
namespace Go.Proofs.Ytbkoddikfpkocaa
open Go.ChangeShapes Go.WideShapes Go.ChangeAt Go.RowKit
set_option linter.unusedVariables false
set_option maxRecDepth 100000

theorem opens_Db : Opens 81 rDb := opens_struct1 Try.underlying81 (by kernel_rfl) rfl (by kernel_rfl) opens_Tl
abbrev kDb_in := agg_in rDb
theorem open_kDb_in {H : Type} {enc : TypeId × Value → H} {W : World} {d : DataW H} {ps : List MemPlace} {v : Value} (hv : Value.okWide Try.prog W .any 0 81 v) (h : DataW.Trod enc Try.prog W 0 (fun _ => true) true 81 v d ps) : kDb_in W v :=
  open_agg_in Try.underlying81 opens_Db hv h

end Go.Proofs.Ytbkoddikfpkocaa

/- Contracts: whether a database is valid. -/
namespace Go.Proofs.Ytbkoddikfpkocaa
open Go.RowKit Go.Sort
set_option linter.unusedVariables false
set_option linter.unusedSimpArgs false
set_option synthInstance.maxSize 2000
set_option synthInstance.maxHeartbeats 400000

/-- Names compared. -/
def ltB (s t : ByteArray) : Bool := Op.bytesLess s.toList t.toList
def dbFrom (p : Option ByteArray) : List DT → Bool
  | [] => true
  | t :: r => validT t && ((match p with | none => true | some q => ltB q t.1) && dbFrom (some t.1) r)
/-- Whether a database is valid. -/
def validDb (db : DDb) : Bool := dbFrom none db && decide (db.length ≤ 6)
def prevN (db : List DT) : Nat → Option ByteArray
  | 0 => none
  | j + 1 => (db[j]?).map (fun t => t.1)
theorem dbFrom_at {p : Option ByteArray} {db : List DT} {j : Nat} {t : DT} (h : db[j]? = some t) : dbFrom p (db.drop j) = (validT t && ((match p with | none => true | some q => ltB q t.1) && dbFrom (some t.1) (db.drop (j + 1)))) := by
  rw [drop_at h]; rfl
theorem dbFrom_end {p : Option ByteArray} {db : List DT} {j : Nat} (h : db.length ≤ j) : dbFrom p (db.drop j) = true := by
  rw [List.drop_eq_nil_of_le h]; rfl
theorem prevN_at {db : List DT} {j : Nat} {t : DT} (h : db[j]? = some t) : prevN db (j + 1) = some t.1 := by simp [prevN, h]
theorem validDb_no {db : DDb} (h : dbFrom none db = false) : validDb db = false := by simp [validDb, h]
theorem validDb_len {db : DDb} {n : Nat} (hl : db.length = n) (h : dbFrom none db = true) : validDb db = decide ((n : Int) ≤ 6) := by
  rw [validDb, h, hl, Bool.eq_iff_iff]; simp only [Bool.true_and, decide_eq_true_eq]; omega

set_option maxHeartbeats 4000000 in
theorem validDb_impl (cs : List Value) (x : DDb) (w : World) (h : rDb.rep w cs x) :
    Calls Try.prog 196 #[.agg cs.toArray] w fun e w' => e = .returned (.bool (validDb x)) ∧ Below w.heap.size w w' := by
  obtain ⟨ub, un, uc, rfl, g1⟩ := rDb_open h
  clear h
  have t1 := rS_sl g1
  have hl := t1.len
  have hn := t1.small
  have HV : Hid (dbFrom none x = dbFrom (prevN x 0) (x.drop 0)) := rfl
  have HL := Lib.hid hl
  have hb0 : Below w.heap.size w w := Below.refl _ _
  go_enter Try.func196, Try.ntmps196
  obtain ⟨w1, hw1⟩ : ∃ W, W = w.alloc (.cells #[.slice ub un uc] 89) := ⟨_, rfl⟩
  have z1 : Below w.heap.size w w1 := by rw [hw1]; exact (Below.refl _ _).alloc (Nat.le_refl _) _
  have s1 : w1.heap.size = w.heap.size + 1 := by rw [hw1]; simp
  have hb1 := on hb0 z1
  have b_0 : w1.cell? ⟨w.heap.size, 0, none⟩ = some (.slice ub un uc) := by rw [hw1]; exact box_cell (Below.refl _ _) rfl
  have raw1_b_0 := b_0
  rw [hw1] at raw1_b_0
  go_wp2_with fail
  rw [← hw1]
  clear hw1
  clear raw1_b_0
  go_loopw [8] (fun k wr => ∃ j : Nat, j ≤ un ∧ k = .int .i64 j ∧ Hid (dbFrom none x = dbFrom (prevN x j) (x.drop j)) ∧ Below w1.heap.size w1 wr) (fun k _ => un - (intOf k).toNat)
  case atStart => exact ⟨0, Nat.zero_le _, rfl, HV.out, Below.refl _ _⟩
  case round =>
    obtain ⟨j, hj, rfl, hE, hdr⟩ := hrel
    obtain ⟨wo, rfl⟩ : ∃ W, W = wr := ⟨_, rfl⟩
    have hlc := hdr
    have s2 := hdr.size
    have hb2 := on hb1 hdr
    replace b_0 := (hdr.cell (p := ⟨w.heap.size, 0, none⟩) (by simp only []; omega)).trans b_0
    by_cases hlt : j < un
    · obtain ⟨b1, o1, cs, t, rfl, hx, hr, hc⟩ := t1.at hlt
      have HA := Lib.hid (hE.out.trans (dbFrom_at hx.out))
      have HP := Lib.hid (prevN_at hx.out)
      obtain ⟨s, i, rows⟩ := t
      obtain ⟨tb, tn, tc, rfl, hs, hi, g2⟩ := rT_open hr
      simp only at hs hi g2 HA HP
      have e_lt : b1 < w.heap.size := cell_lt (hc 0 _ rfl)
      have e_0 : wo.cell? ⟨b1, o1 + j * 3, none⟩ = some (.string s) := (hb2.cell (p := ⟨b1, o1 + j * 3, none⟩) e_lt).trans (by have h9 := hc 0 _ rfl; rw [← Nat.add_assoc] at h9; exact h9)
      have e_1 : wo.cell? ⟨b1, o1 + j * 3 + 1, none⟩ = some (.int .i64 i) := (hb2.cell (p := ⟨b1, o1 + j * 3 + 1, none⟩) e_lt).trans (by have h9 := hc 1 _ rfl; rw [← Nat.add_assoc] at h9; exact h9)
      have e_2 : wo.cell? ⟨b1, o1 + j * 3 + 2, none⟩ = some (.slice tb tn tc) := (hb2.cell (p := ⟨b1, o1 + j * 3 + 2, none⟩) e_lt).trans (by have h9 := hc 2 _ rfl; rw [← Nat.add_assoc] at h9; exact h9)
      have hcall := fun W (hW : Below w.heap.size w W) => validT_impl [.string s, .int .i64 i, .slice tb tn tc] (s, i, rows) W (rT.mono hr hW)
      obtain ⟨v, hv⟩ : ∃ v, v = validT (s, i, rows) := ⟨_, rfl⟩
      rw [← hv] at hcall HA
      have HC := Lib.hid hcall
      clear hcall hv hE HV hc hr g2 hl
      by_cases hj0 : j = 0
      · subst hj0
        have z_0 : wo.cell? ⟨b1, o1, none⟩ = some (.string s) := by have h9 := e_0; rw [Nat.zero_mul, Nat.add_zero] at h9; exact h9
        have z_1 : wo.cell? ⟨b1, o1 + 1, none⟩ = some (.int .i64 i) := by have h9 := e_1; rw [Nat.zero_mul, Nat.add_zero] at h9; exact h9
        have z_2 : wo.cell? ⟨b1, o1 + 2, none⟩ = some (.slice tb tn tc) := by have h9 := e_2; rw [Nat.zero_mul, Nat.add_zero] at h9; exact h9
        clear e_0 e_1 e_2
        have HA1 : Hid (dbFrom none x = (v && dbFrom (prevN x (0 + 1)) (x.drop (0 + 1)))) := Lib.hid (by rw [HA.out, HP.out]; simp [prevN])
        clear hx HA HP t1
        cases v with
        | true =>
          have HE : Hid (dbFrom none x = dbFrom (prevN x (0 + 1)) (x.drop (0 + 1))) := Lib.hid (by rw [HA1.out]; rfl)
          obtain ⟨w3, hw3⟩ : ∃ W, W = wo.alloc (.cells #[.string s, .int .i64 i, .slice tb tn tc] 34) := ⟨_, rfl⟩
          have z3 : Below wo.heap.size wo w3 := by rw [hw3]; exact (Below.refl _ _).alloc (Nat.le_refl _) _
          have s3 : w3.heap.size = wo.heap.size + 1 := by rw [hw3]; simp
          have hb3 := on hb2 z3
          have old3_b_0 := b_0
          have old3_z_0 := z_0
          have old3_z_1 := z_1
          have old3_z_2 := z_2
          replace b_0 := (z3.cell (p := ⟨w.heap.size, 0, none⟩) (by simp only []; omega)).trans b_0
          replace hlc := on hlc z3
          replace z_0 := (z3.cell (p := ⟨b1, o1, none⟩) (by simp only []; omega)).trans z_0
          replace z_1 := (z3.cell (p := ⟨b1, o1 + 1, none⟩) (by simp only []; omega)).trans z_1
          replace z_2 := (z3.cell (p := ⟨b1, o1 + 2, none⟩) (by simp only []; omega)).trans z_2
          have p_0 : w3.cell? ⟨wo.heap.size, 0, none⟩ = some (.string s) := by rw [hw3]; exact box_cell (Below.refl _ _) rfl
          have p_1 : w3.cell? ⟨wo.heap.size, 1, none⟩ = some (.int .i64 i) := by rw [hw3]; exact box_cell (Below.refl _ _) rfl
          have p_2 : w3.cell? ⟨wo.heap.size, 2, none⟩ = some (.slice tb tn tc) := by rw [hw3]; exact box_cell (Below.refl _ _) rfl
          have raw3_b_0 := b_0
          have raw3_z_0 := z_0
          have raw3_z_1 := z_1
          have raw3_z_2 := z_2
          have raw3_p_0 := p_0
          have raw3_p_1 := p_1
          have raw3_p_2 := p_2
          rw [hw3] at raw3_b_0 raw3_z_0 raw3_z_1 raw3_z_2 raw3_p_0 raw3_p_1 raw3_p_2
          go_wp2_with fail
          rw [← hw3]
          clear hw3
          clear old3_b_0 old3_z_0 old3_z_1 old3_z_2 raw3_b_0 raw3_z_0 raw3_z_1 raw3_z_2 raw3_p_0 raw3_p_1 raw3_p_2
          have rg_b_0 := cell_regrown b_0
          have rg_z_0 := cell_regrown z_0
          have rg_z_1 := cell_regrown z_1
          have rg_z_2 := cell_regrown z_2
          have rg_p_0 := cell_regrown p_0
          have rg_p_1 := cell_regrown p_1
          have rg_p_2 := cell_regrown p_2
          refine wp_region_quiet_below (by kernel_rfl) (by kernel_rfl) ?_
          repeat (go_big_quiet_step ((first | (go_at_call 137; exact Calls.regrown_of (HC.out _ (on hb3 (below_regrown _ _ _)))))))
          refine wpQuiet_nil ?_
          intro w4 hw4
          have z4 : Below w3.heap.size w3 w4 := by obtain ⟨p9, e9⟩ := hw4; rw [e9]; exact below_regrown _ _ _
          clear hw4 rg_b_0 rg_z_0 rg_z_1 rg_z_2 rg_p_0 rg_p_1 rg_p_2
          have s5 := z4.size
          have hb5 := on hb3 z4
          replace b_0 := (z4.cell (p := ⟨w.heap.size, 0, none⟩) (by simp only []; omega)).trans b_0
          replace hlc := on hlc z4
          replace z_0 := (z4.cell (p := ⟨b1, o1, none⟩) (by simp only []; omega)).trans z_0
          replace z_1 := (z4.cell (p := ⟨b1, o1 + 1, none⟩) (by simp only []; omega)).trans z_1
          replace z_2 := (z4.cell (p := ⟨b1, o1 + 2, none⟩) (by simp only []; omega)).trans z_2
          replace p_0 := (z4.cell (p := ⟨wo.heap.size, 0, none⟩) (by simp only []; omega)).trans p_0
          replace p_1 := (z4.cell (p := ⟨wo.heap.size, 1, none⟩) (by simp only []; omega)).trans p_1
          replace p_2 := (z4.cell (p := ⟨wo.heap.size, 2, none⟩) (by simp only []; omega)).trans p_2
          go_wp2_with fail
          go_roundw
          case rel => exact ⟨1, by omega, rfl, HE.out, hlc⟩
          case measure => simp [intOf]; omega
        | false =>
          have HE := Lib.hid (validDb_no (db := x) (by rw [HA1.out]; rfl))
          obtain ⟨w6, hw6⟩ : ∃ W, W = wo.alloc (.cells #[.string s, .int .i64 i, .slice tb tn tc] 34) := ⟨_, rfl⟩
          have z6 : Below wo.heap.size wo w6 := by rw [hw6]; exact (Below.refl _ _).alloc (Nat.le_refl _) _
          have s6 : w6.heap.size = wo.heap.size + 1 := by rw [hw6]; simp
          have hb6 := on hb2 z6
          have old6_b_0 := b_0
          have old6_z_0 := z_0
          have old6_z_1 := z_1
          have old6_z_2 := z_2
          replace b_0 := (z6.cell (p := ⟨w.heap.size, 0, none⟩) (by simp only []; omega)).trans b_0
          replace hlc := on hlc z6
          replace z_0 := (z6.cell (p := ⟨b1, o1, none⟩) (by simp only []; omega)).trans z_0
          replace z_1 := (z6.cell (p := ⟨b1, o1 + 1, none⟩) (by simp only []; omega)).trans z_1
          replace z_2 := (z6.cell (p := ⟨b1, o1 + 2, none⟩) (by simp only []; omega)).trans z_2
          have p_0 : w6.cell? ⟨wo.heap.size, 0, none⟩ = some (.string s) := by rw [hw6]; exact box_cell (Below.refl _ _) rfl
          have p_1 : w6.cell? ⟨wo.heap.size, 1, none⟩ = some (.int .i64 i) := by rw [hw6]; exact box_cell (Below.refl _ _) rfl
          have p_2 : w6.cell? ⟨wo.heap.size, 2, none⟩ = some (.slice tb tn tc) := by rw [hw6]; exact box_cell (Below.refl _ _) rfl
          have raw6_b_0 := b_0
          have raw6_z_0 := z_0
          have raw6_z_1 := z_1
          have raw6_z_2 := z_2
          have raw6_p_0 := p_0
          have raw6_p_1 := p_1
          have raw6_p_2 := p_2
          rw [hw6] at raw6_b_0 raw6_z_0 raw6_z_1 raw6_z_2 raw6_p_0 raw6_p_1 raw6_p_2
          go_wp2_with fail
          rw [← hw6]
          clear hw6
          clear old6_b_0 old6_z_0 old6_z_1 old6_z_2 raw6_b_0 raw6_z_0 raw6_z_1 raw6_z_2 raw6_p_0 raw6_p_1 raw6_p_2
          have rg_b_0 := cell_regrown b_0
          have rg_z_0 := cell_regrown z_0
          have rg_z_1 := cell_regrown z_1
          have rg_z_2 := cell_regrown z_2
          have rg_p_0 := cell_regrown p_0
          have rg_p_1 := cell_regrown p_1
          have rg_p_2 := cell_regrown p_2
          refine wp_region_quiet_below (by kernel_rfl) (by kernel_rfl) ?_
          repeat (go_big_quiet_step ((first | (go_at_call 137; exact Calls.regrown_of (HC.out _ (on hb6 (below_regrown _ _ _)))))))
          refine wpQuiet_nil ?_
          intro w7 hw7
          have z7 : Below w6.heap.size w6 w7 := by obtain ⟨p9, e9⟩ := hw7; rw [e9]; exact below_regrown _ _ _
          clear hw7 rg_b_0 rg_z_0 rg_z_1 rg_z_2 rg_p_0 rg_p_1 rg_p_2
          have s8 := z7.size
          have hb8 := on hb6 z7
          replace b_0 := (z7.cell (p := ⟨w.heap.size, 0, none⟩) (by simp only []; omega)).trans b_0
          replace hlc := on hlc z7
          replace z_0 := (z7.cell (p := ⟨b1, o1, none⟩) (by simp only []; omega)).trans z_0
          replace z_1 := (z7.cell (p := ⟨b1, o1 + 1, none⟩) (by simp only []; omega)).trans z_1
          replace z_2 := (z7.cell (p := ⟨b1, o1 + 2, none⟩) (by simp only []; omega)).trans z_2
          replace p_0 := (z7.cell (p := ⟨wo.heap.size, 0, none⟩) (by simp only []; omega)).trans p_0
          replace p_1 := (z7.cell (p := ⟨wo.heap.size, 1, none⟩) (by simp only []; omega)).trans p_1
          replace p_2 := (z7.cell (p := ⟨wo.heap.size, 2, none⟩) (by simp only []; omega)).trans p_2
          go_wp2_with fail
          go_ret
          exact ⟨ret_bool HE.out.symm, hb8⟩
      obtain ⟨l, rfl⟩ : ∃ l, j = l + 1 := ⟨j - 1, by omega⟩
      obtain ⟨b9, o9, cs, t, hb9, hy, hr, hc⟩ := t1.at (show l < un by omega)
      simp at hb9
      obtain ⟨rfl, rfl⟩ := hb9
      have HP2 := Lib.hid (prevN_at hy.out)
      obtain ⟨s2, i2, rows2⟩ := t
      obtain ⟨tb2, tn2, tc2, rfl, hs2, hi2, g2⟩ := rT_open hr
      simp only at HP2
      have f_lt : b1 < w.heap.size := cell_lt (hc 0 _ rfl)
      have f_0 : wo.cell? ⟨b1, o1 + l * 3, none⟩ = some (.string s2) := (hb2.cell (p := ⟨b1, o1 + l * 3, none⟩) f_lt).trans (by have h9 := hc 0 _ rfl; rw [← Nat.add_assoc] at h9; exact h9)
      have f_1 : wo.cell? ⟨b1, o1 + l * 3 + 1, none⟩ = some (.int .i64 i2) := (hb2.cell (p := ⟨b1, o1 + l * 3 + 1, none⟩) f_lt).trans (by have h9 := hc 1 _ rfl; rw [← Nat.add_assoc] at h9; exact h9)
      have f_2 : wo.cell? ⟨b1, o1 + l * 3 + 2, none⟩ = some (.slice tb2 tn2 tc2) := (hb2.cell (p := ⟨b1, o1 + l * 3 + 2, none⟩) f_lt).trans (by have h9 := hc 2 _ rfl; rw [← Nat.add_assoc] at h9; exact h9)
      have HA1 : Hid (dbFrom none x = (v && (ltB s2 s && dbFrom (prevN x (l + 1 + 1)) (x.drop (l + 1 + 1))))) := Lib.hid (by rw [HA.out, HP.out, HP2.out])
      clear hx hy HA HP HP2 t1 hc hr g2 hj0
      obtain ⟨q, hq⟩ : ∃ q, q = ltB s2 s := ⟨_, rfl⟩
      rw [← hq] at HA1
      have hq2 : Op.bytesLess s2.toList s.toList = q := hq.symm
      clear hq
      have hi63 : IntKind.i64.wrap (l : Int) = (l : Int) := IntWalk.i64_in _ (by omega)
      cases v with
      | false =>
        have HE := Lib.hid (validDb_no (db := x) (by rw [HA1.out]; rfl))
        obtain ⟨w9, hw9⟩ : ∃ W, W = wo.alloc (.cells #[.string s, .int .i64 i, .slice tb tn tc] 34) := ⟨_, rfl⟩
        have z9 : Below wo.heap.size wo w9 := by rw [hw9]; exact (Below.refl _ _).alloc (Nat.le_refl _) _
        have s9 : w9.heap.size = wo.heap.size + 1 := by rw [hw9]; simp
        have hb9 := on hb2 z9
        have old9_b_0 := b_0
        have old9_e_0 := e_0
        have old9_e_1 := e_1
        have old9_e_2 := e_2
        have old9_f_0 := f_0
        have old9_f_1 := f_1
        have old9_f_2 := f_2
        replace b_0 := (z9.cell (p := ⟨w.heap.size, 0, none⟩) (by simp only []; omega)).trans b_0
        replace hlc := on hlc z9
        replace e_0 := (z9.cell (p := ⟨b1, o1 + (l + 1) * 3, none⟩) (by simp only []; omega)).trans e_0
        replace e_1 := (z9.cell (p := ⟨b1, o1 + (l + 1) * 3 + 1, none⟩) (by simp only []; omega)).trans e_1
        replace e_2 := (z9.cell (p := ⟨b1, o1 + (l + 1) * 3 + 2, none⟩) (by simp only []; omega)).trans e_2
        replace f_0 := (z9.cell (p := ⟨b1, o1 + l * 3, none⟩) (by simp only []; omega)).trans f_0
        replace f_1 := (z9.cell (p := ⟨b1, o1 + l * 3 + 1, none⟩) (by simp only []; omega)).trans f_1
        replace f_2 := (z9.cell (p := ⟨b1, o1 + l * 3 + 2, none⟩) (by simp only []; omega)).trans f_2
        have p_0 : w9.cell? ⟨wo.heap.size, 0, none⟩ = some (.string s) := by rw [hw9]; exact box_cell (Below.refl _ _) rfl
        have p_1 : w9.cell? ⟨wo.heap.size, 1, none⟩ = some (.int .i64 i) := by rw [hw9]; exact box_cell (Below.refl _ _) rfl
        have p_2 : w9.cell? ⟨wo.heap.size, 2, none⟩ = some (.slice tb tn tc) := by rw [hw9]; exact box_cell (Below.refl _ _) rfl
        have raw9_b_0 := b_0
        have raw9_e_0 := e_0
        have raw9_e_1 := e_1
        have raw9_e_2 := e_2
        have raw9_f_0 := f_0
        have raw9_f_1 := f_1
        have raw9_f_2 := f_2
        have raw9_p_0 := p_0
        have raw9_p_1 := p_1
        have raw9_p_2 := p_2
        rw [hw9] at raw9_b_0 raw9_e_0 raw9_e_1 raw9_e_2 raw9_f_0 raw9_f_1 raw9_f_2 raw9_p_0 raw9_p_1 raw9_p_2
        go_wp2_with fail
        rw [← hw9]
        clear hw9
        clear old9_b_0 old9_e_0 old9_e_1 old9_e_2 old9_f_0 old9_f_1 old9_f_2 raw9_b_0 raw9_e_0 raw9_e_1 raw9_e_2 raw9_f_0 raw9_f_1 raw9_f_2 raw9_p_0 raw9_p_1 raw9_p_2
        have rg_b_0 := cell_regrown b_0
        have rg_e_0 := cell_regrown e_0
        have rg_e_1 := cell_regrown e_1
        have rg_e_2 := cell_regrown e_2
        have rg_f_0 := cell_regrown f_0
        have rg_f_1 := cell_regrown f_1
        have rg_f_2 := cell_regrown f_2
        have rg_p_0 := cell_regrown p_0
        have rg_p_1 := cell_regrown p_1
        have rg_p_2 := cell_regrown p_2
        refine wp_region_quiet_below (by kernel_rfl) (by kernel_rfl) ?_
        repeat (go_big_quiet_step ((first | (go_at_call 137; exact Calls.regrown_of (HC.out _ (on hb9 (below_regrown _ _ _)))))))
        refine wpQuiet_nil ?_
        intro w10 hw10
        have z10 : Below w9.heap.size w9 w10 := by obtain ⟨p9, e9⟩ := hw10; rw [e9]; exact below_regrown _ _ _
        clear hw10 rg_b_0 rg_e_0 rg_e_1 rg_e_2 rg_f_0 rg_f_1 rg_f_2 rg_p_0 rg_p_1 rg_p_2
        have s11 := z10.size
        have hb11 := on hb9 z10
        replace b_0 := (z10.cell (p := ⟨w.heap.size, 0, none⟩) (by simp only []; omega)).trans b_0
        replace hlc := on hlc z10
        replace e_0 := (z10.cell (p := ⟨b1, o1 + (l + 1) * 3, none⟩) (by simp only []; omega)).trans e_0
        replace e_1 := (z10.cell (p := ⟨b1, o1 + (l + 1) * 3 + 1, none⟩) (by simp only []; omega)).trans e_1
        replace e_2 := (z10.cell (p := ⟨b1, o1 + (l + 1) * 3 + 2, none⟩) (by simp only []; omega)).trans e_2
        replace f_0 := (z10.cell (p := ⟨b1, o1 + l * 3, none⟩) (by simp only []; omega)).trans f_0
        replace f_1 := (z10.cell (p := ⟨b1, o1 + l * 3 + 1, none⟩) (by simp only []; omega)).trans f_1
        replace f_2 := (z10.cell (p := ⟨b1, o1 + l * 3 + 2, none⟩) (by simp only []; omega)).trans f_2
        replace p_0 := (z10.cell (p := ⟨wo.heap.size, 0, none⟩) (by simp only []; omega)).trans p_0
        replace p_1 := (z10.cell (p := ⟨wo.heap.size, 1, none⟩) (by simp only []; omega)).trans p_1
        replace p_2 := (z10.cell (p := ⟨wo.heap.size, 2, none⟩) (by simp only []; omega)).trans p_2
        clear hi63
        go_wp2_with fail
        go_ret
        exact ⟨ret_bool HE.out.symm, hb11⟩
      | true =>
        cases q with
        | false =>
          have HE := Lib.hid (validDb_no (db := x) (by rw [HA1.out]; rfl))
          obtain ⟨w12, hw12⟩ : ∃ W, W = wo.alloc (.cells #[.string s, .int .i64 i, .slice tb tn tc] 34) := ⟨_, rfl⟩
          have z12 : Below wo.heap.size wo w12 := by rw [hw12]; exact (Below.refl _ _).alloc (Nat.le_refl _) _
          have s12 : w12.heap.size = wo.heap.size + 1 := by rw [hw12]; simp
          have hb12 := on hb2 z12
          have old12_b_0 := b_0
          have old12_e_0 := e_0
          have old12_e_1 := e_1
          have old12_e_2 := e_2
          have old12_f_0 := f_0
          have old12_f_1 := f_1
          have old12_f_2 := f_2
          replace b_0 := (z12.cell (p := ⟨w.heap.size, 0, none⟩) (by simp only []; omega)).trans b_0
          replace hlc := on hlc z12
          replace e_0 := (z12.cell (p := ⟨b1, o1 + (l + 1) * 3, none⟩) (by simp only []; omega)).trans e_0
          replace e_1 := (z12.cell (p := ⟨b1, o1 + (l + 1) * 3 + 1, none⟩) (by simp only []; omega)).trans e_1
          replace e_2 := (z12.cell (p := ⟨b1, o1 + (l + 1) * 3 + 2, none⟩) (by simp only []; omega)).trans e_2
          replace f_0 := (z12.cell (p := ⟨b1, o1 + l * 3, none⟩) (by simp only []; omega)).trans f_0
          replace f_1 := (z12.cell (p := ⟨b1, o1 + l * 3 + 1, none⟩) (by simp only []; omega)).trans f_1
          replace f_2 := (z12.cell (p := ⟨b1, o1 + l * 3 + 2, none⟩) (by simp only []; omega)).trans f_2
          have p_0 : w12.cell? ⟨wo.heap.size, 0, none⟩ = some (.string s) := by rw [hw12]; exact box_cell (Below.refl _ _) rfl
          have p_1 : w12.cell? ⟨wo.heap.size, 1, none⟩ = some (.int .i64 i) := by rw [hw12]; exact box_cell (Below.refl _ _) rfl
          have p_2 : w12.cell? ⟨wo.heap.size, 2, none⟩ = some (.slice tb tn tc) := by rw [hw12]; exact box_cell (Below.refl _ _) rfl
          have raw12_b_0 := b_0
          have raw12_e_0 := e_0
          have raw12_e_1 := e_1
          have raw12_e_2 := e_2
          have raw12_f_0 := f_0
          have raw12_f_1 := f_1
          have raw12_f_2 := f_2
          have raw12_p_0 := p_0
          have raw12_p_1 := p_1
          have raw12_p_2 := p_2
          rw [hw12] at raw12_b_0 raw12_e_0 raw12_e_1 raw12_e_2 raw12_f_0 raw12_f_1 raw12_f_2 raw12_p_0 raw12_p_1 raw12_p_2
          go_wp2_with fail
          rw [← hw12]
          clear hw12
          clear old12_b_0 old12_e_0 old12_e_1 old12_e_2 old12_f_0 old12_f_1 old12_f_2 raw12_b_0 raw12_e_0 raw12_e_1 raw12_e_2 raw12_f_0 raw12_f_1 raw12_f_2 raw12_p_0 raw12_p_1 raw12_p_2
          have rg_b_0 := cell_regrown b_0
          have rg_e_0 := cell_regrown e_0
          have rg_e_1 := cell_regrown e_1
          have rg_e_2 := cell_regrown e_2
          have rg_f_0 := cell_regrown f_0
          have rg_f_1 := cell_regrown f_1
          have rg_f_2 := cell_regrown f_2
          have rg_p_0 := cell_regrown p_0
          have rg_p_1 := cell_regrown p_1
          have rg_p_2 := cell_regrown p_2
          refine wp_region_quiet_below (by kernel_rfl) (by kernel_rfl) ?_
          repeat (go_big_quiet_step ((first | (go_at_call 137; exact Calls.regrown_of (HC.out _ (on hb12 (below_regrown _ _ _)))))))
          refine wpQuiet_nil ?_
          intro w13 hw13
          have z13 : Below w12.heap.size w12 w13 := by obtain ⟨p9, e9⟩ := hw13; rw [e9]; exact below_regrown _ _ _
          clear hw13 rg_b_0 rg_e_0 rg_e_1 rg_e_2 rg_f_0 rg_f_1 rg_f_2 rg_p_0 rg_p_1 rg_p_2
          have s14 := z13.size
          have hb14 := on hb12 z13
          replace b_0 := (z13.cell (p := ⟨w.heap.size, 0, none⟩) (by simp only []; omega)).trans b_0
          replace hlc := on hlc z13
          replace e_0 := (z13.cell (p := ⟨b1, o1 + (l + 1) * 3, none⟩) (by simp only []; omega)).trans e_0
          replace e_1 := (z13.cell (p := ⟨b1, o1 + (l + 1) * 3 + 1, none⟩) (by simp only []; omega)).trans e_1
          replace e_2 := (z13.cell (p := ⟨b1, o1 + (l + 1) * 3 + 2, none⟩) (by simp only []; omega)).trans e_2
          replace f_0 := (z13.cell (p := ⟨b1, o1 + l * 3, none⟩) (by simp only []; omega)).trans f_0
          replace f_1 := (z13.cell (p := ⟨b1, o1 + l * 3 + 1, none⟩) (by simp only []; omega)).trans f_1
          replace f_2 := (z13.cell (p := ⟨b1, o1 + l * 3 + 2, none⟩) (by simp only []; omega)).trans f_2
          replace p_0 := (z13.cell (p := ⟨wo.heap.size, 0, none⟩) (by simp only []; omega)).trans p_0
          replace p_1 := (z13.cell (p := ⟨wo.heap.size, 1, none⟩) (by simp only []; omega)).trans p_1
          replace p_2 := (z13.cell (p := ⟨wo.heap.size, 2, none⟩) (by simp only []; omega)).trans p_2
          clear hi63
          go_wp2_with fail
          go_ret
          exact ⟨ret_bool HE.out.symm, hb14⟩
        | true =>
          have HE : Hid (dbFrom none x = dbFrom (prevN x (l + 1 + 1)) (x.drop (l + 1 + 1))) := Lib.hid (by rw [HA1.out]; rfl)
          obtain ⟨w15, hw15⟩ : ∃ W, W = wo.alloc (.cells #[.string s, .int .i64 i, .slice tb tn tc] 34) := ⟨_, rfl⟩
          have z15 : Below wo.heap.size wo w15 := by rw [hw15]; exact (Below.refl _ _).alloc (Nat.le_refl _) _
          have s15 : w15.heap.size = wo.heap.size + 1 := by rw [hw15]; simp
          have hb15 := on hb2 z15
          have old15_b_0 := b_0
          have old15_e_0 := e_0
          have old15_e_1 := e_1
          have old15_e_2 := e_2
          have old15_f_0 := f_0
          have old15_f_1 := f_1
          have old15_f_2 := f_2
          replace b_0 := (z15.cell (p := ⟨w.heap.size, 0, none⟩) (by simp only []; omega)).trans b_0
          replace hlc := on hlc z15
          replace e_0 := (z15.cell (p := ⟨b1, o1 + (l + 1) * 3, none⟩) (by simp only []; omega)).trans e_0
          replace e_1 := (z15.cell (p := ⟨b1, o1 + (l + 1) * 3 + 1, none⟩) (by simp only []; omega)).trans e_1
          replace e_2 := (z15.cell (p := ⟨b1, o1 + (l + 1) * 3 + 2, none⟩) (by simp only []; omega)).trans e_2
          replace f_0 := (z15.cell (p := ⟨b1, o1 + l * 3, none⟩) (by simp only []; omega)).trans f_0
          replace f_1 := (z15.cell (p := ⟨b1, o1 + l * 3 + 1, none⟩) (by simp only []; omega)).trans f_1
          replace f_2 := (z15.cell (p := ⟨b1, o1 + l * 3 + 2, none⟩) (by simp only []; omega)).trans f_2
          have p_0 : w15.cell? ⟨wo.heap.size, 0, none⟩ = some (.string s) := by rw [hw15]; exact box_cell (Below.refl _ _) rfl
          have p_1 : w15.cell? ⟨wo.heap.size, 1, none⟩ = some (.int .i64 i) := by rw [hw15]; exact box_cell (Below.refl _ _) rfl
          have p_2 : w15.cell? ⟨wo.heap.size, 2, none⟩ = some (.slice tb tn tc) := by rw [hw15]; exact box_cell (Below.refl _ _) rfl
          have raw15_b_0 := b_0
          have raw15_e_0 := e_0
          have raw15_e_1 := e_1
          have raw15_e_2 := e_2
          have raw15_f_0 := f_0
          have raw15_f_1 := f_1
          have raw15_f_2 := f_2
          have raw15_p_0 := p_0
          have raw15_p_1 := p_1
          have raw15_p_2 := p_2
          rw [hw15] at raw15_b_0 raw15_e_0 raw15_e_1 raw15_e_2 raw15_f_0 raw15_f_1 raw15_f_2 raw15_p_0 raw15_p_1 raw15_p_2
          go_wp2_with fail
          rw [← hw15]
          clear hw15
          clear old15_b_0 old15_e_0 old15_e_1 old15_e_2 old15_f_0 old15_f_1 old15_f_2 raw15_b_0 raw15_e_0 raw15_e_1 raw15_e_2 raw15_f_0 raw15_f_1 raw15_f_2 raw15_p_0 raw15_p_1 raw15_p_2
          have rg_b_0 := cell_regrown b_0
          have rg_e_0 := cell_regrown e_0
          have rg_e_1 := cell_regrown e_1
          have rg_e_2 := cell_regrown e_2
          have rg_f_0 := cell_regrown f_0
          have rg_f_1 := cell_regrown f_1
          have rg_f_2 := cell_regrown f_2
          have rg_p_0 := cell_regrown p_0
          have rg_p_1 := cell_regrown p_1
          have rg_p_2 := cell_regrown p_2
          refine wp_region_quiet_below (by kernel_rfl) (by kernel_rfl) ?_
          repeat (go_big_quiet_step ((first | (go_at_call 137; exact Calls.regrown_of (HC.out _ (on hb15 (below_regrown _ _ _)))))))
          refine wpQuiet_nil ?_
          intro w16 hw16
          have z16 : Below w15.heap.size w15 w16 := by obtain ⟨p9, e9⟩ := hw16; rw [e9]; exact below_regrown _ _ _
          clear hw16 rg_b_0 rg_e_0 rg_e_1 rg_e_2 rg_f_0 rg_f_1 rg_f_2 rg_p_0 rg_p_1 rg_p_2
          have s17 := z16.size
          have hb17 := on hb15 z16
          replace b_0 := (z16.cell (p := ⟨w.heap.size, 0, none⟩) (by simp only []; omega)).trans b_0
          replace hlc := on hlc z16
          replace e_0 := (z16.cell (p := ⟨b1, o1 + (l + 1) * 3, none⟩) (by simp only []; omega)).trans e_0
          replace e_1 := (z16.cell (p := ⟨b1, o1 + (l + 1) * 3 + 1, none⟩) (by simp only []; omega)).trans e_1
          replace e_2 := (z16.cell (p := ⟨b1, o1 + (l + 1) * 3 + 2, none⟩) (by simp only []; omega)).trans e_2
          replace f_0 := (z16.cell (p := ⟨b1, o1 + l * 3, none⟩) (by simp only []; omega)).trans f_0
          replace f_1 := (z16.cell (p := ⟨b1, o1 + l * 3 + 1, none⟩) (by simp only []; omega)).trans f_1
          replace f_2 := (z16.cell (p := ⟨b1, o1 + l * 3 + 2, none⟩) (by simp only []; omega)).trans f_2
          replace p_0 := (z16.cell (p := ⟨wo.heap.size, 0, none⟩) (by simp only []; omega)).trans p_0
          replace p_1 := (z16.cell (p := ⟨wo.heap.size, 1, none⟩) (by simp only []; omega)).trans p_1
          replace p_2 := (z16.cell (p := ⟨wo.heap.size, 2, none⟩) (by simp only []; omega)).trans p_2
          clear hi63
          go_wp2_with fail
          go_roundw
          case rel => exact ⟨l + 1 + 1, by omega, by go_num, HE.out, hlc⟩
          case measure => simp [intOf]; omega
    · have HE := Lib.hid (validDb_len HL.out (hE.out.trans (dbFrom_end (by have := HL.out; omega))))
      clear t1 hl hE HV
      go_wp2_with fail
      go_ret
      exact ⟨ret_bool (by rw [HE.out]), hb2⟩

set_option maxHeartbeats 4000000 in
theorem validDb_spec (cs : List Value) (x : DDb) (w : World) (h : rDb.rep w cs x) :
    Calls Try.prog 192 #[.agg cs.toArray] w fun e w' => e = .returned (.bool (validDb x)) ∧ Below w.heap.size w w' := by
  obtain ⟨ub, un, uc, rfl, g1⟩ := rDb_open h
  clear h
  have t1 := rS_sl g1
  have hl := t1.len
  have hn := t1.small
  have HV : Hid (dbFrom none x = dbFrom (prevN x 0) (x.drop 0)) := rfl
  have HL := Lib.hid hl
  have hb0 : Below w.heap.size w w := Below.refl _ _
  go_enter Try.func192, Try.ntmps192
  obtain ⟨w1, hw1⟩ : ∃ W, W = w.alloc (.cells #[.slice ub un uc] 89) := ⟨_, rfl⟩
  have z1 : Below w.heap.size w w1 := by rw [hw1]; exact (Below.refl _ _).alloc (Nat.le_refl _) _
  have s1 : w1.heap.size = w.heap.size + 1 := by rw [hw1]; simp
  have hb1 := on hb0 z1
  have b_0 : w1.cell? ⟨w.heap.size, 0, none⟩ = some (.slice ub un uc) := by rw [hw1]; exact box_cell (Below.refl _ _) rfl
  have raw1_b_0 := b_0
  rw [hw1] at raw1_b_0
  go_wp2_with fail
  rw [← hw1]
  clear hw1
  clear raw1_b_0
  go_loopw [3] (fun k wr => ∃ j : Nat, j ≤ un ∧ k = .int .i64 j ∧ Hid (dbFrom none x = dbFrom (prevN x j) (x.drop j)) ∧ Below w1.heap.size w1 wr) (fun k _ => un - (intOf k).toNat)
  case atStart => exact ⟨0, Nat.zero_le _, rfl, HV.out, Below.refl _ _⟩
  case round =>
    obtain ⟨j, hj, rfl, hE, hdr⟩ := hrel
    obtain ⟨wo, rfl⟩ : ∃ W, W = wr := ⟨_, rfl⟩
    have hlc := hdr
    have s2 := hdr.size
    have hb2 := on hb1 hdr
    replace b_0 := (hdr.cell (p := ⟨w.heap.size, 0, none⟩) (by simp only []; omega)).trans b_0
    by_cases hlt : j < un
    · obtain ⟨b1, o1, cs, t, rfl, hx, hr, hc⟩ := t1.at hlt
      have HA := Lib.hid (hE.out.trans (dbFrom_at hx.out))
      have HP := Lib.hid (prevN_at hx.out)
      obtain ⟨s, i, rows⟩ := t
      obtain ⟨tb, tn, tc, rfl, hs, hi, g2⟩ := rT_open hr
      simp only at hs hi g2 HA HP
      have e_lt : b1 < w.heap.size := cell_lt (hc 0 _ rfl)
      have e_0 : wo.cell? ⟨b1, o1 + j * 3, none⟩ = some (.string s) := (hb2.cell (p := ⟨b1, o1 + j * 3, none⟩) e_lt).trans (by have h9 := hc 0 _ rfl; rw [← Nat.add_assoc] at h9; exact h9)
      have e_1 : wo.cell? ⟨b1, o1 + j * 3 + 1, none⟩ = some (.int .i64 i) := (hb2.cell (p := ⟨b1, o1 + j * 3 + 1, none⟩) e_lt).trans (by have h9 := hc 1 _ rfl; rw [← Nat.add_assoc] at h9; exact h9)
      have e_2 : wo.cell? ⟨b1, o1 + j * 3 + 2, none⟩ = some (.slice tb tn tc) := (hb2.cell (p := ⟨b1, o1 + j * 3 + 2, none⟩) e_lt).trans (by have h9 := hc 2 _ rfl; rw [← Nat.add_assoc] at h9; exact h9)
      have hcall := fun W (hW : Below w.heap.size w W) => validT_spec [.string s, .int .i64 i, .slice tb tn tc] (s, i, rows) W (rT.mono hr hW)
      obtain ⟨v, hv⟩ : ∃ v, v = validT (s, i, rows) := ⟨_, rfl⟩
      rw [← hv] at hcall HA
      have HC := Lib.hid hcall
      clear hcall hv hE HV hc hr g2 hl
      by_cases hj0 : j = 0
      · subst hj0
        have z_0 : wo.cell? ⟨b1, o1, none⟩ = some (.string s) := by have h9 := e_0; rw [Nat.zero_mul, Nat.add_zero] at h9; exact h9
        have z_1 : wo.cell? ⟨b1, o1 + 1, none⟩ = some (.int .i64 i) := by have h9 := e_1; rw [Nat.zero_mul, Nat.add_zero] at h9; exact h9
        have z_2 : wo.cell? ⟨b1, o1 + 2, none⟩ = some (.slice tb tn tc) := by have h9 := e_2; rw [Nat.zero_mul, Nat.add_zero] at h9; exact h9
        clear e_0 e_1 e_2
        have HA1 : Hid (dbFrom none x = (v && dbFrom (prevN x (0 + 1)) (x.drop (0 + 1)))) := Lib.hid (by rw [HA.out, HP.out]; simp [prevN])
        clear hx HA HP t1
        cases v with
        | true =>
          have HE : Hid (dbFrom none x = dbFrom (prevN x (0 + 1)) (x.drop (0 + 1))) := Lib.hid (by rw [HA1.out]; rfl)
          go_wp2_with fail
          have rg_b_0 := cell_regrown b_0
          have rg_z_0 := cell_regrown z_0
          have rg_z_1 := cell_regrown z_1
          have rg_z_2 := cell_regrown z_2
          refine wp_region_quiet_below (by kernel_rfl) (by kernel_rfl) ?_
          repeat (go_big_quiet_step ((first | (go_at_call 27; exact Calls.regrown_of (HC.out _ (on hb2 (below_regrown _ _ _)))))))
          refine wpQuiet_nil ?_
          intro w3 hw3
          have z3 : Below wo.heap.size wo w3 := by obtain ⟨p9, e9⟩ := hw3; rw [e9]; exact below_regrown _ _ _
          clear hw3 rg_b_0 rg_z_0 rg_z_1 rg_z_2
          have s4 := z3.size
          have hb4 := on hb2 z3
          replace b_0 := (z3.cell (p := ⟨w.heap.size, 0, none⟩) (by simp only []; omega)).trans b_0
          replace hlc := on hlc z3
          replace z_0 := (z3.cell (p := ⟨b1, o1, none⟩) (by simp only []; omega)).trans z_0
          replace z_1 := (z3.cell (p := ⟨b1, o1 + 1, none⟩) (by simp only []; omega)).trans z_1
          replace z_2 := (z3.cell (p := ⟨b1, o1 + 2, none⟩) (by simp only []; omega)).trans z_2
          go_wp2_with fail
          go_roundw
          case rel => exact ⟨1, by omega, rfl, HE.out, hlc⟩
          case measure => simp [intOf]; omega
        | false =>
          have HE := Lib.hid (validDb_no (db := x) (by rw [HA1.out]; rfl))
          go_wp2_with fail
          have rg_b_0 := cell_regrown b_0
          have rg_z_0 := cell_regrown z_0
          have rg_z_1 := cell_regrown z_1
          have rg_z_2 := cell_regrown z_2
          refine wp_region_quiet_below (by kernel_rfl) (by kernel_rfl) ?_
          repeat (go_big_quiet_step ((first | (go_at_call 27; exact Calls.regrown_of (HC.out _ (on hb2 (below_regrown _ _ _)))))))
          refine wpQuiet_nil ?_
          intro w5 hw5
          have z5 : Below wo.heap.size wo w5 := by obtain ⟨p9, e9⟩ := hw5; rw [e9]; exact below_regrown _ _ _
          clear hw5 rg_b_0 rg_z_0 rg_z_1 rg_z_2
          have s6 := z5.size
          have hb6 := on hb2 z5
          replace b_0 := (z5.cell (p := ⟨w.heap.size, 0, none⟩) (by simp only []; omega)).trans b_0
          replace hlc := on hlc z5
          replace z_0 := (z5.cell (p := ⟨b1, o1, none⟩) (by simp only []; omega)).trans z_0
          replace z_1 := (z5.cell (p := ⟨b1, o1 + 1, none⟩) (by simp only []; omega)).trans z_1
          replace z_2 := (z5.cell (p := ⟨b1, o1 + 2, none⟩) (by simp only []; omega)).trans z_2
          go_wp2_with fail
          go_ret
          exact ⟨ret_bool HE.out.symm, hb6⟩
      obtain ⟨l, rfl⟩ : ∃ l, j = l + 1 := ⟨j - 1, by omega⟩
      obtain ⟨b9, o9, cs, t, hb9, hy, hr, hc⟩ := t1.at (show l < un by omega)
      simp at hb9
      obtain ⟨rfl, rfl⟩ := hb9
      have HP2 := Lib.hid (prevN_at hy.out)
      obtain ⟨s2, i2, rows2⟩ := t
      obtain ⟨tb2, tn2, tc2, rfl, hs2, hi2, g2⟩ := rT_open hr
      simp only at HP2
      have f_lt : b1 < w.heap.size := cell_lt (hc 0 _ rfl)
      have f_0 : wo.cell? ⟨b1, o1 + l * 3, none⟩ = some (.string s2) := (hb2.cell (p := ⟨b1, o1 + l * 3, none⟩) f_lt).trans (by have h9 := hc 0 _ rfl; rw [← Nat.add_assoc] at h9; exact h9)
      have f_1 : wo.cell? ⟨b1, o1 + l * 3 + 1, none⟩ = some (.int .i64 i2) := (hb2.cell (p := ⟨b1, o1 + l * 3 + 1, none⟩) f_lt).trans (by have h9 := hc 1 _ rfl; rw [← Nat.add_assoc] at h9; exact h9)
      have f_2 : wo.cell? ⟨b1, o1 + l * 3 + 2, none⟩ = some (.slice tb2 tn2 tc2) := (hb2.cell (p := ⟨b1, o1 + l * 3 + 2, none⟩) f_lt).trans (by have h9 := hc 2 _ rfl; rw [← Nat.add_assoc] at h9; exact h9)
      have HA1 : Hid (dbFrom none x = (v && (ltB s2 s && dbFrom (prevN x (l + 1 + 1)) (x.drop (l + 1 + 1))))) := Lib.hid (by rw [HA.out, HP.out, HP2.out])
      clear hx hy HA HP HP2 t1 hc hr g2 hj0
      obtain ⟨q, hq⟩ : ∃ q, q = ltB s2 s := ⟨_, rfl⟩
      rw [← hq] at HA1
      have hq2 : Op.bytesLess s2.toList s.toList = q := hq.symm
      clear hq
      have hi63 : IntKind.i64.wrap (l : Int) = (l : Int) := IntWalk.i64_in _ (by omega)
      cases v with
      | false =>
        have HE := Lib.hid (validDb_no (db := x) (by rw [HA1.out]; rfl))
        go_wp2_with fail
        have rg_b_0 := cell_regrown b_0
        have rg_e_0 := cell_regrown e_0
        have rg_e_1 := cell_regrown e_1
        have rg_e_2 := cell_regrown e_2
        have rg_f_0 := cell_regrown f_0
        have rg_f_1 := cell_regrown f_1
        have rg_f_2 := cell_regrown f_2
        refine wp_region_quiet_below (by kernel_rfl) (by kernel_rfl) ?_
        repeat (go_big_quiet_step ((first | (go_at_call 27; exact Calls.regrown_of (HC.out _ (on hb2 (below_regrown _ _ _)))))))
        refine wpQuiet_nil ?_
        intro w7 hw7
        have z7 : Below wo.heap.size wo w7 := by obtain ⟨p9, e9⟩ := hw7; rw [e9]; exact below_regrown _ _ _
        clear hw7 rg_b_0 rg_e_0 rg_e_1 rg_e_2 rg_f_0 rg_f_1 rg_f_2
        have s8 := z7.size
        have hb8 := on hb2 z7
        replace b_0 := (z7.cell (p := ⟨w.heap.size, 0, none⟩) (by simp only []; omega)).trans b_0
        replace hlc := on hlc z7
        replace e_0 := (z7.cell (p := ⟨b1, o1 + (l + 1) * 3, none⟩) (by simp only []; omega)).trans e_0
        replace e_1 := (z7.cell (p := ⟨b1, o1 + (l + 1) * 3 + 1, none⟩) (by simp only []; omega)).trans e_1
        replace e_2 := (z7.cell (p := ⟨b1, o1 + (l + 1) * 3 + 2, none⟩) (by simp only []; omega)).trans e_2
        replace f_0 := (z7.cell (p := ⟨b1, o1 + l * 3, none⟩) (by simp only []; omega)).trans f_0
        replace f_1 := (z7.cell (p := ⟨b1, o1 + l * 3 + 1, none⟩) (by simp only []; omega)).trans f_1
        replace f_2 := (z7.cell (p := ⟨b1, o1 + l * 3 + 2, none⟩) (by simp only []; omega)).trans f_2
        clear hi63
        go_wp2_with fail
        go_ret
        exact ⟨ret_bool HE.out.symm, hb8⟩
      | true =>
        cases q with
        | false =>
          have HE := Lib.hid (validDb_no (db := x) (by rw [HA1.out]; rfl))
          go_wp2_with fail
          have rg_b_0 := cell_regrown b_0
          have rg_e_0 := cell_regrown e_0
          have rg_e_1 := cell_regrown e_1
          have rg_e_2 := cell_regrown e_2
          have rg_f_0 := cell_regrown f_0
          have rg_f_1 := cell_regrown f_1
          have rg_f_2 := cell_regrown f_2
          refine wp_region_quiet_below (by kernel_rfl) (by kernel_rfl) ?_
          repeat (go_big_quiet_step ((first | (go_at_call 27; exact Calls.regrown_of (HC.out _ (on hb2 (below_regrown _ _ _)))))))
          refine wpQuiet_nil ?_
          intro w9 hw9
          have z9 : Below wo.heap.size wo w9 := by obtain ⟨p9, e9⟩ := hw9; rw [e9]; exact below_regrown _ _ _
          clear hw9 rg_b_0 rg_e_0 rg_e_1 rg_e_2 rg_f_0 rg_f_1 rg_f_2
          have s10 := z9.size
          have hb10 := on hb2 z9
          replace b_0 := (z9.cell (p := ⟨w.heap.size, 0, none⟩) (by simp only []; omega)).trans b_0
          replace hlc := on hlc z9
          replace e_0 := (z9.cell (p := ⟨b1, o1 + (l + 1) * 3, none⟩) (by simp only []; omega)).trans e_0
          replace e_1 := (z9.cell (p := ⟨b1, o1 + (l + 1) * 3 + 1, none⟩) (by simp only []; omega)).trans e_1
          replace e_2 := (z9.cell (p := ⟨b1, o1 + (l + 1) * 3 + 2, none⟩) (by simp only []; omega)).trans e_2
          replace f_0 := (z9.cell (p := ⟨b1, o1 + l * 3, none⟩) (by simp only []; omega)).trans f_0
          replace f_1 := (z9.cell (p := ⟨b1, o1 + l * 3 + 1, none⟩) (by simp only []; omega)).trans f_1
          replace f_2 := (z9.cell (p := ⟨b1, o1 + l * 3 + 2, none⟩) (by simp only []; omega)).trans f_2
          clear hi63
          go_wp2_with fail
          go_ret
          exact ⟨ret_bool HE.out.symm, hb10⟩
        | true =>
          have HE : Hid (dbFrom none x = dbFrom (prevN x (l + 1 + 1)) (x.drop (l + 1 + 1))) := Lib.hid (by rw [HA1.out]; rfl)
          go_wp2_with fail
          have rg_b_0 := cell_regrown b_0
          have rg_e_0 := cell_regrown e_0
          have rg_e_1 := cell_regrown e_1
          have rg_e_2 := cell_regrown e_2
          have rg_f_0 := cell_regrown f_0
          have rg_f_1 := cell_regrown f_1
          have rg_f_2 := cell_regrown f_2
          refine wp_region_quiet_below (by kernel_rfl) (by kernel_rfl) ?_
          repeat (go_big_quiet_step ((first | (go_at_call 27; exact Calls.regrown_of (HC.out _ (on hb2 (below_regrown _ _ _)))))))
          refine wpQuiet_nil ?_
          intro w11 hw11
          have z11 : Below wo.heap.size wo w11 := by obtain ⟨p9, e9⟩ := hw11; rw [e9]; exact below_regrown _ _ _
          clear hw11 rg_b_0 rg_e_0 rg_e_1 rg_e_2 rg_f_0 rg_f_1 rg_f_2
          have s12 := z11.size
          have hb12 := on hb2 z11
          replace b_0 := (z11.cell (p := ⟨w.heap.size, 0, none⟩) (by simp only []; omega)).trans b_0
          replace hlc := on hlc z11
          replace e_0 := (z11.cell (p := ⟨b1, o1 + (l + 1) * 3, none⟩) (by simp only []; omega)).trans e_0
          replace e_1 := (z11.cell (p := ⟨b1, o1 + (l + 1) * 3 + 1, none⟩) (by simp only []; omega)).trans e_1
          replace e_2 := (z11.cell (p := ⟨b1, o1 + (l + 1) * 3 + 2, none⟩) (by simp only []; omega)).trans e_2
          replace f_0 := (z11.cell (p := ⟨b1, o1 + l * 3, none⟩) (by simp only []; omega)).trans f_0
          replace f_1 := (z11.cell (p := ⟨b1, o1 + l * 3 + 1, none⟩) (by simp only []; omega)).trans f_1
          replace f_2 := (z11.cell (p := ⟨b1, o1 + l * 3 + 2, none⟩) (by simp only []; omega)).trans f_2
          clear hi63
          go_wp2_with fail
          go_roundw
          case rel => exact ⟨l + 1 + 1, by omega, by go_num, HE.out, hlc⟩
          case measure => simp [intOf]; omega
    · have HE := Lib.hid (validDb_len HL.out (hE.out.trans (dbFrom_end (by have := HL.out; omega))))
      clear t1 hl hE HV
      go_wp2_with fail
      go_ret
      exact ⟨ret_bool (by rw [HE.out]), hb2⟩

end Go.Proofs.Ytbkoddikfpkocaa
