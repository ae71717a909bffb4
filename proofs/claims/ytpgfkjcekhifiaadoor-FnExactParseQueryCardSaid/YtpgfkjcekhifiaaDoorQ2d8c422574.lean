/- Texts joined for one claim: Copy. -/
import Derived.Test.YtpgfkjcekhifiaaDoorQaf28bb062f
import Derived.Test.YtpgfkjcekhifiaaDoorQ856294bef7
import Derived.Test.YtpgfkjcekhifiaaDoorQce44a65671
import Derived.Deep.AppendSrc

/- Contracts: copies of rows and tables. -/
namespace Go.Proofs.YtpgfkjcekhifiaaDoor
open Go.RowKit Go.Sort
set_option linter.unusedVariables false
set_option linter.unusedSimpArgs false
set_option synthInstance.maxSize 2000
set_option synthInstance.maxHeartbeats 400000

theorem info_zero {e : TypeId} {z : Value} {size bytes : Nat} (h : (Tryd.prog.info? e).map (fun i => (i.zero, i.size, i.bytes)) = some (some z, size, bytes)) : ∃ i, Tryd.prog.info? e = some i ∧ i.zero = some z ∧ i.size = size ∧ i.bytes = bytes := info_parts h

/-- 'append([]int{}, xs...)', xs nil or not. -/
theorem wpList_copyI {W : World} {ops : Array Oper} {rest : List Oper} {o : Oper} {a : Act} {Q : Exit → Act → World → Prop}
    (s x : Operand) (g n c : Nat) (ad : Option Addr) (xs : List Int) (hg : W.heap.size = g) (hi : Ints (W.alloc (.cells #[] 3)) ad n xs) (hn : n ≤ 1000000000000)
    (hgd : o.guard = none) (ho : o.op = .call { callee := .builtin .append, args := #[s, x], argTypes := #[34, 34] })
    (hs : a.eval s = .slice (some ⟨g, 0, none⟩) 0 0) (hx : a.eval x = .slice ad n c)
    (h : ∀ v' w', OwnInts W.heap.size w' v' n xs → Below W.heap.size W w' → W.heap.size < w'.heap.size → wpList Tryd.prog ops Q rest (a.put o.dst v') w') :
    wpList Tryd.prog ops Q (o :: rest) a (W.alloc (.cells #[] 3)) := by
  subst hg
  obtain ⟨i, hi0, hz0, hz1, hz2⟩ := info_parts infoInt
  have hown := own_empty (Nat.le_refl W.heap.size)
  have hbl : Below W.heap.size W (W.alloc (.cells #[] 3)) := (Below.refl _ _).alloc (Nat.le_refl _) _
  cases ad with
  | none =>
    have hn0 : n = 0 := by
      rcases Nat.eq_zero_or_pos n with h0 | h0
      · exact h0
      · obtain ⟨b, off, hb, _⟩ := hi.cell 0 h0; simp at hb
    subst hn0
    have hx0 : xs = [] := List.eq_nil_of_length_eq_zero hi.len
    subst hx0
    refine wpList_plain hgd fun K hK => ?_
    have hr : (Builtin.append_ #[34, 34] o.type #[.slice (some ⟨W.heap.size, 0, none⟩) 0 0, .slice none 0 c]).run Tryd.prog (W.alloc (.cells #[] 3)) = .ok (.slice (some ⟨W.heap.size, 0, none⟩) 0 0) (W.alloc (.cells #[] 3)) := run_append_room_src (P := Tryd.prog) (W.alloc (.cells #[] 3)) 34 34 o.type 3 i Tryd.underlying34 hi0 W.heap.size 0 0 0 (.slice none 0 c) 0 [] (Src.ofNil _ Tryd.underlying34 c) (by omega) (by simp) (by simp)
    unfold Oper.wp execOp
    simp only [ho, resolve, invoke, builtin, Sem.run_bind, Sem.run_pure, Result.andThen_ok, List.map_toArray, List.map_cons, List.map_nil, hs, hx, hr]
    exact hK _ _ (h _ _ hown hbl (by simp))
  | some ad =>
    have hnews : ∀ j u, (xs.map (Value.int .i64))[j]? = some u → (W.alloc (.cells #[] 3)).cell? (ad.add j) = some u := by
      intro j u hu
      rw [List.getElem?_map] at hu
      have hj : j < n := by
        rw [← hi.len]
        rcases Nat.lt_or_ge j xs.length with h1 | h1
        · exact h1
        · rw [List.getElem?_eq_none h1] at hu; simp at hu
      obtain ⟨b, off, hb, hc⟩ := hi.cell j hj
      simp at hb
      subst hb
      rw [List.getD_eq_getElem?_getD] at hc
      rw [List.getElem?_eq_getElem (by rw [hi.len]; exact hj)] at hu hc
      simp at hu
      subst hu
      rw [Addr.add_lit]
      simpa using hc
    refine wpList_append_own _ hgd s x 34 ho W.heap.size 3 i (.int .i64 0) 1 8 Tryd.underlying34 hi0 hz0 hz1 hz2 rfl (by decide) _ 0 [] hs (by simpa using hown.row) ad n c (xs.map (Value.int .i64)) hx (by simp [hi.len]) hnews (by intro z hz; simp at hz; obtain ⟨y, _, rfl⟩ := hz; rfl) (by unfold maxLen; omega) (by omega) (by simp) ?_
    intro v' w' h1 h2 _
    refine h v' w' ⟨hi.len, by simpa using h1, hi.rng⟩ (hbl.grown h2 (by simp) (fun k hk => by simp [Value.ownBlock] at hk; omega)) ?_
    have := h2.size; simp at this; omega

theorem infoI : (Tryd.prog.info? 34).map (fun i => (i.zero, i.size, i.bytes)) = some (some (.slice none 0 0), 1, 24) := by kernel_rfl

end Go.Proofs.YtpgfkjcekhifiaaDoor
