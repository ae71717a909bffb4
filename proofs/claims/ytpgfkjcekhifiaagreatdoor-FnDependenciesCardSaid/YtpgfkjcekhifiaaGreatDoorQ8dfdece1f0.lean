/- Texts joined for one claim: RegLast. -/
import Derived.Test.YtpgfkjcekhifiaaGreatDoorQe58ef1fdfa
import Derived.Orders
import Derived.Deep.RegionHeld3

namespace Go.Proofs.YtpgfkjcekhifiaaGreatDoor

open Go.RowKit

set_option linter.unusedVariables false

def LastQ (P : Program) (o : Oper) (Q : Exit → Act → World → Prop) : Exit → Act → World → Prop
  | .normal, a, w => Oper.wp P o a w (fun a' w' => Q .normal a' w') Q
  | e, a, w => Q e a w

theorem oper_wp_lastQ {P : Program} {Q : Exit → Act → World → Prop} {o l : Oper} {a : Act} {w : World} {K : Act → World → Prop} (h : o.wp P a w K (LastQ P l Q)) : o.wp P a w K Q := by
  unfold Oper.wp at *
  generalize (execOp a.eval o).run P w = r at *
  cases r with
  | ok n w' =>
    cases n <;> simp only [Oper.upon] at h ⊢ <;>
      first
        | exact h
        | exact Calls.mono h (fun e w'' he => by cases e <;> first | exact he | exact he)
        | exact Rows.mono h (fun _ _ he => he)
  | halt x w' => cases x <;> simp only [Oper.upon] at h ⊢ <;> exact h

structure LastOk (md : Region.Mode) (ops : Array Oper) (l : Oper) : Prop where
  op : ∀ i o, ops[i]? = some o → o.guard = none ∧ (∀ e ∈ o.after, e.on < i) ∧ ∃ e ∈ l.after, Region.binds md e = true ∧ e.on = i
  last : l.guard = none ∧ ∀ e ∈ l.after, e.on < ops.size

def lastOk (md : Region.Mode) (ops : Array Oper) (l : Oper) : Bool :=
  (List.range ops.size).all (fun i => match ops[i]? with
    | some o => o.guard.isNone && (o.after.toList.all (fun e => decide (e.on < i)) && l.after.toList.any (fun e => Region.binds md e && decide (e.on = i)))
    | none => true) && (l.guard.isNone && l.after.toList.all (fun e => decide (e.on < ops.size)))

theorem LastOk.of {md : Region.Mode} {ops : Array Oper} {l : Oper} (h : lastOk md ops l = true) : LastOk md ops l := by
  simp only [lastOk, Bool.and_eq_true, List.all_eq_true, List.mem_range] at h
  obtain ⟨h1, h2, h3⟩ := h
  refine ⟨fun i o ho => ?_, by simpa using h2, fun e he => by have := h3 e (Array.mem_toList_iff.2 he); simpa using this⟩
  have hlt : i < ops.size := (Array.getElem?_eq_some_iff.1 ho).1
  have h4 := h1 i hlt
  rw [ho] at h4
  simp only [Bool.and_eq_true, List.all_eq_true, List.any_eq_true, decide_eq_true_eq] at h4
  obtain ⟨h5, h6, e, he, h7, h8⟩ := h4
  exact ⟨by simpa using h5, fun e he => h6 e (Array.mem_toList_iff.2 he), e, Array.mem_toList_iff.1 he, h7, h8⟩

theorem getD_push_lt {L : Array Bool} {i : Nat} (d : Bool) (h : i < L.size) : (L.push false).getD i d = L.getD i d := by
  simp [Array.getElem?_push_lt, h]

theorem mem_ready_push {md : Region.Mode} {ops : Array Oper} {l : Oper} (hok : LastOk md ops l) {L : Array Bool} (hL : L.size = ops.size) {i : Nat} (hi : i < ops.size) :
    i ∈ Region.ready md (ops.push l) (L.push false) ↔ i ∈ Region.ready md ops L := by
  rw [mem_ready, mem_ready, getD_push_lt true (by omega), Array.getElem?_push_lt hi, Array.getElem?_eq_getElem hi]
  constructor
  · rintro ⟨h0, o, ho, h⟩
    refine ⟨h0, o, ho, fun e he hb => ?_⟩
    have := h e he hb
    rwa [getD_push_lt false (by have := (hok.op i o (by rw [Array.getElem?_eq_getElem hi]; exact ho)).2.1 e he; omega)] at this
  · rintro ⟨h0, o, ho, h⟩
    refine ⟨h0, o, ho, fun e he hb => ?_⟩
    rw [getD_push_lt false (by have := (hok.op i o (by rw [Array.getElem?_eq_getElem hi]; exact ho)).2.1 e he; omega)]
    exact h e he hb

theorem all_listed {md : Region.Mode} {ops : Array Oper} {l : Oper} (hok : LastOk md ops l) {L : Array Bool} (hL : L.size = ops.size) (hr : Region.ready md ops L = []) : ∀ i, i < ops.size → L.getD i true = true := by
  intro i
  induction i using Nat.strongRecOn with
  | _ i ih =>
    intro hi
    cases h : L.getD i true with
    | true => rfl
    | false =>
      have : i ∈ Region.ready md ops L := by
        rw [mem_ready]
        refine ⟨h, ops[i], Array.getElem?_eq_getElem hi, fun e he hb => ?_⟩
        have hlt := (hok.op i ops[i] (Array.getElem?_eq_getElem hi)).2.1 e he
        have := ih e.on hlt (by omega)
        have h9 : e.on < L.size := by omega
        simpa [h9] using this
      rw [hr] at this
      cases this

theorem mem_ready_last {md : Region.Mode} {ops : Array Oper} {l : Oper} (hok : LastOk md ops l) {L : Array Bool} (hL : L.size = ops.size) : ops.size ∈ Region.ready md (ops.push l) (L.push false) ↔ ∀ i, i < ops.size → L.getD i true = true := by
  rw [mem_ready]
  constructor
  · rintro ⟨_, o, ho, h⟩ i hi
    rw [Array.getElem?_push_size] at ho
    obtain rfl := Option.some.inj ho
    obtain ⟨e, he, hb, rfl⟩ := (hok.op i ops[i] (Array.getElem?_eq_getElem hi)).2.2
    have := h e he hb
    rw [getD_push_lt false (by omega)] at this
    have h9 : e.on < L.size := by omega
    simpa [h9] using this
  · intro h
    refine ⟨?_, l, Array.getElem?_push_size, fun e he hb => ?_⟩
    · rw [← hL]; simp
    · have h8 := hok.last.2 e he
      rw [getD_push_lt false (by omega)]
      have := h e.on h8
      have h9 : e.on < L.size := by omega
      simpa [h9] using this

theorem ready_full {md : Region.Mode} {ops : Array Oper} {L : Array Bool} (h : ∀ i, i < ops.size → L.getD i true = true) : Region.ready md ops L = [] := by
  apply List.eq_nil_iff_forall_not_mem.2
  intro i hi
  obtain ⟨h0, o, ho, _⟩ := mem_ready.1 hi
  rw [h i (Array.getElem?_eq_some_iff.1 ho).1] at h0
  cases h0

theorem wpAny_last {P : Program} {md : Region.Mode} {ops : Array Oper} {l : Oper} {Q : Exit → Act → World → Prop} (hok : LastOk md ops l) : ∀ (fuel : Nat) (L : Array Bool) (a : Act) (w : World), L.size = ops.size →
    wpAny P md ops (LastQ P l Q) fuel L a w → wpAny P md (ops.push l) Q (fuel + 1) (L.push false) a w := by
  have full : ∀ (fuel : Nat) (L : Array Bool) (a : Act) (w : World), L.size = ops.size → (∀ i, i < ops.size → L.getD i true = true) → Oper.wp P l a w (fun a' w' => Q .normal a' w') Q → wpAny P md (ops.push l) Q (fuel + 1) (L.push false) a w := by
    intro fuel L a w hL hall h
    have hin := (mem_ready_last hok hL).2 hall
    refine ⟨fun h0 => absurd (h0 ▸ hin) (by simp), fun i hi => ?_⟩
    have hin2 : i = ops.size := by
      obtain ⟨h0, o, ho, _⟩ := mem_ready.1 hi
      have hlt := (Array.getElem?_eq_some_iff.1 ho).1
      rw [Array.size_push] at hlt
      rcases Nat.lt_or_ge i ops.size with h9 | h9
      · rw [getD_push_lt true (by omega), hall i h9] at h0; cases h0
      · omega
    subst hin2
    have hset : (L.push false).setIfInBounds ops.size true = L.push true := by
      rw [← hL]
      apply Array.ext_getElem?
      intro j
      by_cases hij : L.size = j
      · subst hij
        simp
      · rw [Array.getElem?_setIfInBounds_ne hij, Array.getElem?_push, Array.getElem?_push]
        simp [Ne.symm hij]
    have hr0 : Region.ready md (ops.push l) (L.push true) = [] := by
      apply ready_full
      intro j hj
      rw [Array.size_push] at hj
      rcases Nat.lt_or_ge j ops.size with h9 | h9
      · have := hall j h9
        have h8 : j < L.size := by omega
        simpa [Array.getElem?_push_lt, h8] using this
      · have : j = L.size := by omega
        subst this; simp
    unfold wpOp
    rw [Array.getElem?_push_size]
    simp only []
    rw [if_pos (by simp [Region.wanted, hok.last.1]), hset]
    refine .inl (Oper.wp_mono (fun a' w' h9 => ?_) h)
    cases fuel with
    | zero => exact ⟨hr0, h9⟩
    | succ f => exact ⟨fun _ => h9, by rw [hr0]; simp⟩
  intro fuel
  induction fuel with
  | zero =>
    intro L a w hL h
    exact full 0 L a w hL (all_listed hok hL h.1) h.2
  | succ f ih =>
    intro L a w hL h
    by_cases hr : Region.ready md ops L = []
    · exact full (f + 1) L a w hL (all_listed hok hL hr) (h.1 hr)
    · refine ⟨fun h0 => ?_, fun i hi => ?_⟩
      · obtain ⟨i, hi⟩ := List.exists_mem_of_ne_nil _ hr
        have hlt : i < ops.size := by obtain ⟨_, o, ho, _⟩ := mem_ready.1 hi; exact (Array.getElem?_eq_some_iff.1 ho).1
        have := (mem_ready_push hok hL hlt).2 hi
        rw [h0] at this
        cases this
      · have hlt : i < ops.size := by
          obtain ⟨h0, o, ho, _⟩ := mem_ready.1 hi
          have h9 := (Array.getElem?_eq_some_iff.1 ho).1
          rw [Array.size_push] at h9
          rcases Nat.lt_or_ge i ops.size with h8 | h8
          · exact h8
          · have h7 : i = ops.size := by omega
            subst h7
            exact absurd (ready_full ((mem_ready_last hok hL).1 hi)) hr
        have h1 := h.2 i ((mem_ready_push hok hL hlt).1 hi)
        have hset : (L.push false).setIfInBounds i true = (L.setIfInBounds i true).push false := by
          have hLt : i < L.size := by omega
          apply Array.ext_getElem?
          intro j
          by_cases hij : i = j
          · subst hij
            simp [Array.getElem?_push, Array.getElem?_setIfInBounds, hLt, Nat.ne_of_lt hLt]
            try omega
          · rw [Array.getElem?_setIfInBounds_ne hij, Array.getElem?_push, Array.getElem?_push, Array.getElem?_setIfInBounds_ne hij]
            simp
        rw [hset]
        unfold wpOp at h1 ⊢
        rw [Array.getElem?_push_lt hlt]
        rw [Array.getElem?_eq_getElem hlt] at h1
        have hg := (hok.op i ops[i] (Array.getElem?_eq_getElem hlt)).1
        simp only [] at h1 ⊢
        rw [if_pos (by simp [Region.wanted, hg])] at h1 ⊢
        rcases h1 with h1 | ⟨h1, h2⟩
        · exact .inl (Oper.wp_mono (fun a' w' h9 => ih _ a' w' (by simp [hL]) h9) (oper_wp_lastQ h1))
        · exact .inr ⟨h1, h2⟩

theorem wp_region_lastH {P : Program} {id : Nat} {ops0 : Array Oper} {Q : Exit → Act → World → Prop} {a : Act} {w : World} (S : World → Prop) (ops : Array Oper) (l : Oper) (he : ops0 = ops.push l) (hm : P.follows .mixedOrders = true) (hok : lastOk .any ops l = true)
    (h : wpAnyH P .any ops (LastQ P l Q) S ops.size (Array.replicate ops.size false) a w.drew) : (Code.region id ops0 true).wp P Q a w := by
  subst he
  refine wp_region_any hm ?_
  have h1 := wpAny_last (LastOk.of hok) ops.size (Array.replicate ops.size false) a w.drew (by simp) (wpAny_of_held _ _ _ _ h)
  have h2 : (Array.replicate ops.size false).push false = Array.replicate (ops.push l).size false := by
    rw [Array.size_push, Array.replicate_succ]
  rw [h2] at h1
  rw [Array.size_push]
  rw [Array.size_push] at h1
  exact h1

theorem wp_region_lastP {P : Program} {id : Nat} {ops0 : Array Oper} {Q : Exit → Act → World → Prop} {a : Act} {w : World} (S : World → Prop) (k : Nat) {l : Oper} (hk : ops0.size = k + 1) (hl : ops0[k]? = some l) (hm : P.follows .mixedOrders = true) (hok : lastOk .any ops0.pop l = true) (hS : S w.drew)
    (h : S w.drew → ∀ ops, ops = ops0.pop → wpAnyH P .any ops (LastQ P l Q) S k (Array.replicate k false) a w.drew) : (Code.region id ops0 true).wp P Q a w := by
  have h1 := h hS ops0.pop rfl
  have hs : ops0.pop.size = k := by rw [Array.size_pop, hk]; rfl
  refine wp_region_lastH S ops0.pop l ?_ hm hok (by rw [hs]; exact h1)
  apply Array.ext_getElem?
  intro i
  rw [Array.getElem?_push]
  by_cases hi : i = ops0.pop.size
  · subst hi; rw [hs, hl]; simp
  · rw [if_neg hi, Array.getElem?_pop]
    by_cases h9 : i < ops0.size - 1
    · rw [if_pos h9]
    · rw [if_neg h9, Array.getElem?_eq_none (by omega)]

end Go.Proofs.YtpgfkjcekhifiaaGreatDoor
