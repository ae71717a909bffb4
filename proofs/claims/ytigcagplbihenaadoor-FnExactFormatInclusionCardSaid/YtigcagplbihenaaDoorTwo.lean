/- Two slices that a loop appends to (rows, and ints), beside a cell of its own. -/
import Derived.Test.YtigcagplbihenaaDoorAccR
import Derived.Test.YtigcagplbihenaaDoorCopy
namespace Go.Proofs.YtigcagplbihenaaDoor
open Go.RowKit
set_option linter.unusedVariables false
set_option linter.unusedSimpArgs false

/-- append of one element, run: the footprints told. -/
theorem run_app_fp {α : Type} {T E size bytes : Nat} {z : Value} (hT : Tryd.prog.underlying T = some (.slice E)) (hE : (Tryd.prog.info? E).map (fun i => (i.zero, i.size, i.bytes)) = some (some z, size, bytes)) (hz : z.cells.size = size) (hpos : 0 < size) (hby : bytes ≤ 1000)
    {o' : OS α} (hsz : o'.size = size) {W W1 : World} (ty : TypeId) (v : Value) (xs : List α) (c : List Value) (y : α) (fv fy : List Nat)
    (hv : (O.slice E o').rep W [v] xs fv) (hnd : fv.Nodup) (hyr : o'.rep W c y fy) (hynd : fy.Nodup) (hdis : ∀ k ∈ fy, k ∉ fv) (hone : ∀ u ∈ c, u.oneCell' = true) (hn : xs.length ≤ 100000000) (hW1 : W1 = W.alloc (.cells c.toArray E)) :
    ∃ a n cp w' fv', (Builtin.append_ #[T, T] ty #[v, .slice (some ⟨W.heap.size, 0, none⟩) 1 1]).run Tryd.prog W1 = .ok (.slice a n cp) w' ∧ (O.slice E o').rep w' [.slice a n cp] (xs ++ [y]) fv' ∧ fv'.Nodup ∧ (∀ k ∈ fv', k ∈ fv ∨ k ∈ fy ∨ (W.heap.size < k ∧ k < w'.heap.size)) ∧ W.heap.size < w'.heap.size ∧ (w'.os = W.os ∧ w'.tape = W.tape ∧ w'.output = W.output) ∧ (∀ k, k < W.heap.size → k ∉ fv → w'.heap[k]? = W.heap[k]?) := by
  subst hW1
  obtain ⟨i, hi, hz0, hz1, hz2⟩ := info_parts hE
  have hlt9 := (O.slice E o').lt hv
  obtain ⟨v1, css, fps, hv1, rfl, hrow, hrows⟩ := hv
  simp at hv1
  subst hv1
  have hclen : c.length = size := by rw [← hsz]; exact o'.len hyr
  rw [hsz] at hrow
  have hnl := List.nodup_append.1 hnd
  have hnew : Below W.heap.size W (W.alloc (.cells c.toArray E)) := (Below.refl _ _).alloc (Nat.le_refl _) _
  have hrow1 := own_below hrow hnew (Nat.le_refl _)
  have hylt := o'.lt hyr
  have hby2 : (xs.length + 1) * bytes ≤ 140737488355328 := Nat.le_trans (Nat.mul_le_mul (show xs.length + 1 ≤ 100000001 by omega) hby) (by decide)
  obtain ⟨v', w', hrun, h3, h4, _, h5⟩ := run_append_own_at (P := Tryd.prog) (W.alloc (.cells c.toArray E)) 0 T ty E i z size bytes hT hi hz0 hz1 hz2 hz hpos v xs.length css.flatten hrow1 ⟨W.heap.size, 0, none⟩ 1 1 c (by omega) (fresh_cells W c E) hone (by unfold maxLen; omega) hby2 (Nat.zero_le _)
  obtain ⟨a', cp, rfl, _, _⟩ := own_form h3
  have hsz' := h4.size
  simp at hsz'
  have hv' : ∀ k ∈ bl (.slice a' (xs.length + 1) cp), k ∈ bl v ∨ k = W.heap.size + 1 := by
    intro k hk
    have hk' : (Value.slice a' (xs.length + 1) cp).ownBlock = some k := by simpa [bl] using hk
    rcases h5 with h5 | h5
    · left; simp only [bl]; rw [← h5, hk']; simp
    · right
      rw [h5] at hk'
      simp at hk'
      omega
  have hkeep : ∀ k, k < W.heap.size → k ∉ bl v → w'.heap[k]? = W.heap[k]? := by
    intro k hk hn
    rw [h4.block k (by simp; omega) (fun e => hn (by simp only [bl]; rw [← e]; simp)), Below.heap_alloc W _ k hk]
  refine ⟨a', xs.length + 1, cp, w', bl (.slice a' (xs.length + 1) cp) ++ (fps ++ [fy]).flatten, hrun, ⟨_, css ++ [c], fps ++ [fy], rfl, rfl, ?_, ?_⟩, ?_, ?_, by omega, ⟨h4.os, h4.tape, h4.output⟩, fun k hk hx => hkeep k hk (fun hb => hx (List.mem_append_left _ hb))⟩
  · rw [hsz]; simpa using h3
  · have hk2 : ∀ k, k ∈ fps.flatten ++ fy → w'.heap[k]? = W.heap[k]? := by
      intro k hk
      rcases List.mem_append.1 hk with hk | hk
      · exact hkeep k (hlt9 k (List.mem_append_right _ hk)) (fun hb => hnl.2.2 k hb k hk rfl)
      · exact hkeep k (hylt k hk) (fun hb => hdis k hk (List.mem_append_left _ hb))
    exact o'.rows_snoc (o'.frame hyr (fun k hk => hk2 k (List.mem_append_right _ hk))) (o'.rows_frame hrows (fun k hk => hk2 k (List.mem_append_left _ hk)))
  · rw [List.flatten_append, List.nodup_append]
    refine ⟨by unfold bl; cases (Value.slice a' (xs.length + 1) cp).ownBlock <;> simp, ?_, ?_⟩
    · rw [List.nodup_append]
      refine ⟨hnl.2.1, by simpa using hynd, ?_⟩
      intro p hp q hq e
      subst e
      exact hdis p (by simpa using hq) (List.mem_append_right _ hp)
    · intro p hp q hq e
      subst e
      rcases hv' p hp with h8 | h8
      · rcases List.mem_append.1 hq with hq | hq
        · exact hnl.2.2 p h8 p hq rfl
        · exact hdis p (by simpa using hq) (List.mem_append_left _ h8)
      · rcases List.mem_append.1 hq with hq | hq
        · have := hlt9 p (List.mem_append_right _ hq); omega
        · have := hylt p (by simpa using hq); omega
  · intro k hk
    rcases List.mem_append.1 hk with hk | hk
    · rcases hv' k hk with h8 | h8
      · exact .inl (List.mem_append_left _ h8)
      · have h9 := (h3.lt k (by simpa [bl] using hk)).2
        exact .inr (.inr (by omega))
    · simp only [List.flatten_append, List.mem_append] at hk
      rcases hk with hk | hk
      · exact .inl (List.mem_append_right _ hk)
      · exact .inr (.inl (by simpa using hk))

/-- v (rows) and u (ints) are slices of the call's own, apart, from lo on; the block cb is no part of them. -/
def Two (lo hi cb : Nat) (w : World) (v u : Value) (xs : List (List Int)) (ys : List Int) : Prop :=
  ∃ fv fu, oII.rep w [v] xs fv ∧ oI.rep w [u] ys fu ∧ fv.Nodup ∧ fu.Nodup ∧ (∀ k ∈ fv, k ∉ fu) ∧ cb ∉ fv ∧ cb ∉ fu ∧ (∀ k ∈ fv, lo ≤ k ∧ k < hi) ∧ (∀ k ∈ fu, lo ≤ k ∧ k < hi)
theorem Two.mono {lo hi hi' cb : Nat} {w : World} {v u : Value} {xs : List (List Int)} {ys : List Int} (h : Two lo hi cb w v u xs ys) (hh : hi ≤ hi') : Two lo hi' cb w v u xs ys := by
  obtain ⟨fv, fu, h1, h2, h3, h4, h5, h6, h7, h8, h9⟩ := h
  exact ⟨fv, fu, h1, h2, h3, h4, h5, h6, h7, fun k hk => by have := h8 k hk; omega, fun k hk => by have := h9 k hk; omega⟩
theorem Two.frame {lo hi cb : Nat} {w w' : World} {v u : Value} {xs : List (List Int)} {ys : List Int} (h : Two lo hi cb w v u xs ys) (hb : ∀ k, lo ≤ k → k < hi → k ≠ cb → w'.heap[k]? = w.heap[k]?) : Two lo hi cb w' v u xs ys := by
  obtain ⟨fv, fu, h1, h2, h3, h4, h5, h6, h7, h8, h9⟩ := h
  exact ⟨fv, fu, oII.frame h1 (fun k hk => hb k (h8 k hk).1 (h8 k hk).2 (fun e => h6 (e ▸ hk))), oI.frame h2 (fun k hk => hb k (h9 k hk).1 (h9 k hk).2 (fun e => h7 (e ▸ hk))), h3, h4, h5, h6, h7, h8, h9⟩
theorem Two.below {lo hi cb C : Nat} {w w' : World} {v u : Value} {xs : List (List Int)} {ys : List Int} (h : Two lo hi cb w v u xs ys) (hb : Below C w w') (hC : hi ≤ C) : Two lo hi cb w' v u xs ys :=
  h.frame fun k _ hk _ => hb.block k (by omega)
/-- Another cell. -/
theorem Two.recb {lo hi cb cb' : Nat} {w : World} {v u : Value} {xs : List (List Int)} {ys : List Int} (h : Two lo hi cb w v u xs ys) (hc : hi ≤ cb' ∨ cb' < lo) : Two lo hi cb' w v u xs ys := by
  obtain ⟨fv, fu, h1, h2, h3, h4, h5, h6, h7, h8, h9⟩ := h
  exact ⟨fv, fu, h1, h2, h3, h4, h5, fun hk => by have := h8 _ hk; omega, fun hk => by have := h9 _ hk; omega, h8, h9⟩
theorem Two.set {lo hi cb i : Nat} {w : World} {v u : Value} {xs : List (List Int)} {ys : List Int} (h : Two lo hi cb w v u xs ys) (x : Value) : Two lo hi cb (w.setCell ⟨cb, i, none⟩ x) v u xs ys :=
  h.frame fun k _ _ hk => Below.heap_setCell _ _ _ _ hk
theorem Two.fst {lo hi cb : Nat} {w : World} {v u : Value} {xs : List (List Int)} {ys : List Int} (h : Two lo hi cb w v u xs ys) : Own oII lo hi w [v] xs := by
  obtain ⟨fv, fu, h1, h2, h3, h4, h5, h6, h7, h8, h9⟩ := h
  exact ⟨fv, h1, h3, h8⟩
theorem Two.snd {lo hi cb : Nat} {w : World} {v u : Value} {xs : List (List Int)} {ys : List Int} (h : Two lo hi cb w v u xs ys) : Own oI lo hi w [u] ys := by
  obtain ⟨fv, fu, h1, h2, h3, h4, h5, h6, h7, h8, h9⟩ := h
  exact ⟨fu, h2, h4, h9⟩
theorem Two.mk {lo mid hi cb : Nat} {w : World} {v u : Value} {xs : List (List Int)} {ys : List Int} (h : Own oII lo mid w [v] xs) (k : Own oI mid hi w [u] ys) (hc : cb < lo ∨ hi ≤ cb) (h1 : lo ≤ mid) (h2 : mid ≤ hi) : Two lo hi cb w v u xs ys := by
  obtain ⟨fv, a1, a2, a3⟩ := h
  obtain ⟨fu, b1, b2, b3⟩ := k
  exact ⟨fv, fu, a1, b1, a2, b2, fun k hk hk2 => by have := a3 k hk; have := b3 k hk2; omega, fun hk => by have := a3 _ hk; omega, fun hk => by have := b3 _ hk; omega, fun k hk => by have := a3 k hk; omega, fun k hk => by have := b3 k hk; omega⟩

/-- A row goes in. -/
theorem Two.row {lo hi cb h1 h2 : Nat} {W W1 : World} {v u y : Value} {xs : List (List Int)} {ys r : List Int} (ty : TypeId) (h : Two lo hi cb W v u xs ys) (hy : Own oI h1 h2 W [y] r) (hone : y.oneCell' = true) (hh1 : hi ≤ h1) (hh : h1 ≤ h2) (hh2 : h2 ≤ W.heap.size) (hcb : cb < h1) (hlo : lo ≤ hi) (hn : xs.length ≤ 1000000) (hW1 : W1 = W.alloc (.cells #[y] 33)) :
    ∃ a n c w', (Builtin.append_ #[105, 105] ty #[v, .slice (some ⟨W.heap.size, 0, none⟩) 1 1]).run Tryd.prog W1 = .ok (.slice a n c) w' ∧ Two lo w'.heap.size cb w' (.slice a n c) u (xs ++ [r]) ys ∧ Below lo W w' ∧ W.heap.size < w'.heap.size ∧ w'.heap[cb]? = W.heap[cb]? := by
  obtain ⟨fv, fu, a1, a2, a3, a4, a5, a6, a7, a8, a9⟩ := h
  obtain ⟨fy, b1, b2, b3⟩ := hy
  obtain ⟨a, n, c, w', fv', hr, c1, c2, c3, c4, ⟨c5, c6, c7⟩, c8⟩ := run_app_fp (W := W) (W1 := W1) Tryd.underlying105 infoI rfl (by decide) (by decide) rfl ty v xs [y] r fv fy a1 a3 b1 b2 (fun k hk hk2 => by have := b3 k hk; have := a8 k hk2; omega) (by intro z hz; simp at hz; subst hz; exact hone) (by omega) hW1
  have hcbW : cb < W.heap.size := by omega
  refine ⟨a, n, c, w', hr, ⟨fv', fu, c1, oI.frame a2 (fun k hk => c8 k (by have := a9 k hk; omega) (fun hk2 => a5 k hk2 hk)), c2, a4, fun k hk hk2 => ?_, fun hk => ?_, a7, fun k hk => ?_, fun k hk => by have := a9 k hk; omega⟩, ⟨c5, c6, c7, by omega, fun k hk => c8 k (by omega) (fun hk2 => by have := a8 k hk2; omega)⟩, c4, c8 cb hcbW a6⟩
  · have := a9 k hk2
    rcases c3 k hk with h9 | h9 | h9
    · exact a5 k h9 hk2
    · have := b3 k h9; omega
    · omega
  · rcases c3 _ hk with h9 | h9 | h9
    · exact a6 h9
    · have := b3 _ h9; omega
    · omega
  · rcases c3 k hk with h9 | h9 | h9
    · have := a8 k h9; omega
    · have := b3 k h9; omega
    · omega
/-- A number goes in. -/
theorem Two.num {lo hi cb : Nat} {W W1 : World} {v u : Value} {xs : List (List Int)} {ys : List Int} {r : Int} (ty : TypeId) (h : Two lo hi cb W v u xs ys) (hr : I64 r) (hh2 : hi ≤ W.heap.size) (hcb : cb < W.heap.size) (hlo : lo ≤ hi) (hn : ys.length ≤ 1000000) (hW1 : W1 = W.alloc (.cells #[.int .i64 r] 3)) :
    ∃ a n c w', (Builtin.append_ #[33, 33] ty #[u, .slice (some ⟨W.heap.size, 0, none⟩) 1 1]).run Tryd.prog W1 = .ok (.slice a n c) w' ∧ Two lo w'.heap.size cb w' v (.slice a n c) xs (ys ++ [r]) ∧ Below lo W w' ∧ W.heap.size < w'.heap.size ∧ w'.heap[cb]? = W.heap[cb]? := by
  obtain ⟨fv, fu, a1, a2, a3, a4, a5, a6, a7, a8, a9⟩ := h
  obtain ⟨a, n, c, w', fu', hrun, c1, c2, c3, c4, ⟨c5, c6, c7⟩, c8⟩ := run_app_fp (W := W) (W1 := W1) Tryd.underlying33 infoInt rfl (by decide) (by decide) rfl ty u ys [.int .i64 r] r fu [] a2 a4 (o' := O.int) ⟨rfl, hr, rfl⟩ (by simp) (fun k hk => by cases hk) (by intro z hz; simp at hz; subst hz; rfl) (by omega) hW1
  refine ⟨a, n, c, w', hrun, ⟨fv, fu', oII.frame a1 (fun k hk => c8 k (by have := a8 k hk; omega) (fun hk2 => a5 k hk hk2)), c1, a3, c2, fun k hk hk2 => ?_, a6, fun hk => ?_, fun k hk => by have := a8 k hk; omega, fun k hk => ?_⟩, ⟨c5, c6, c7, by omega, fun k hk => c8 k (by omega) (fun hk2 => by have := a9 k hk2; omega)⟩, c4, c8 cb hcb a7⟩
  · have := a8 k hk
    rcases c3 k hk2 with h9 | h9 | h9
    · exact a5 k hk h9
    · cases h9
    · omega
  · rcases c3 _ hk with h9 | h9 | h9
    · exact a7 h9
    · cases h9
    · omega
  · rcases c3 k hk with h9 | h9 | h9
    · have := a9 k h9; omega
    · cases h9
    · omega
/-- A builtin append, by its run. -/
theorem wpList_app_run {W W' : World} {ops : Array Oper} {rest : List Oper} {o : Oper} {a : Act} {Q : Exit → Act → World → Prop} {s x : Operand} {t t' ty : TypeId} {vs vx v' : Value}
    (hrun : (Builtin.append_ #[t, t'] ty #[vs, vx]).run Tryd.prog W = .ok v' W') (hty : o.type = ty) (hgd : o.guard = none)
    (ho : o.op = .call { callee := .builtin .append, args := #[s, x], argTypes := #[t, t'] }) (hs : a.eval s = vs) (hx : a.eval x = vx)
    (h : wpList Tryd.prog ops Q rest (a.put o.dst v') W') : wpList Tryd.prog ops Q (o :: rest) a W := by
  refine wpList_plain hgd fun K hK => ?_
  unfold Oper.wp execOp
  simp only [ho, resolve, invoke, builtin, Sem.run_bind, Sem.run_pure, Result.andThen_ok, List.map_toArray, List.map_cons, List.map_nil, hs, hx, hty, hrun]
  exact hK _ _ h

end Go.Proofs.YtigcagplbihenaaDoor
