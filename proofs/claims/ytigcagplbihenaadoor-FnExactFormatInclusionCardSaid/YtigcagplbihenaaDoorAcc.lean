/- A slice that a loop appends to, while everything else stays. -/
import Derived.Test.YtigcagplbihenaaDoorPart
import Derived.Test.YtigcagplbihenaaDoorGen
namespace Go.Proofs.YtigcagplbihenaaDoor
open Go.RowKit
set_option linter.unusedVariables false
set_option linter.unusedSimpArgs false

/-- v is a slice of the call's own: its blocks are lo, or from S on. -/
def Acc {α : Type} (E : TypeId) (o : OS α) (lo S hi : Nat) (w : World) (v : Value) (xs : List α) : Prop :=
  ∃ fp, (O.slice E o).rep w [v] xs fp ∧ fp.Nodup ∧ ∀ k ∈ fp, (k = lo ∨ S ≤ k) ∧ k < hi
theorem Acc.below {α : Type} {E : TypeId} {o : OS α} {lo S hi C : Nat} {w w' : World} {v : Value} {xs : List α} (h : Acc E o lo S hi w v xs) (hb : Below C w w') (hC : hi ≤ C) : Acc E o lo S hi w' v xs := by
  obtain ⟨fp, h1, h2, h3⟩ := h
  exact ⟨fp, (O.slice E o).frame h1 (fun k hk => hb.block k (by have := (h3 k hk).2; omega)), h2, h3⟩
theorem Acc.own {α : Type} {E : TypeId} {o : OS α} {lo S hi hi' B : Nat} {w : World} {v : Value} {xs : List α} (h : Acc E o lo S hi w v xs) (hlo : B ≤ lo) (hS : B ≤ S) (hh : hi ≤ hi') : Own (O.slice E o) B hi' w [v] xs := by
  obtain ⟨fp, h1, h2, h3⟩ := h
  exact ⟨fp, h1, h2, fun k hk => by have := h3 k hk; omega⟩
theorem Acc.of {α : Type} {E : TypeId} {o : OS α} {S hi lo : Nat} {w : World} {v : Value} {xs : List α} (h : Own (O.slice E o) S hi w [v] xs) : Acc E o lo S hi w v xs := by
  obtain ⟨fp, h1, h2, h3⟩ := h
  exact ⟨fp, h1, h2, fun k hk => by have := h3 k hk; omega⟩
theorem Acc.empty {α : Type} {E : TypeId} {o : OS α} {S g hi : Nat} {W : World} (hg : W.heap.size = g) (hh : g < hi) : Acc E o W.heap.size S hi (W.alloc (.cells #[] E)) (.slice (some ⟨g, 0, none⟩) 0 0) [] := by
  subst hg
  obtain ⟨fp, h1, h2, h3⟩ := own_empty_S (E := E) (o := o) (Nat.le_refl W.heap.size)
  exact ⟨fp, h1, h2, fun k hk => by have := h3 k hk; omega⟩
theorem Acc.nil {α : Type} {E : TypeId} {o : OS α} {lo S hi : Nat} {w : World} : Acc E o lo S hi w (.slice none 0 0) [] := by
  obtain ⟨fp, h1, h2, h3⟩ := own_nil_S (E := E) (o := o) (B := 0) (W := w)
  exact ⟨fp, h1, h2, fun k hk => by have := h3 k hk; omega⟩
theorem Acc.form {α : Type} {E : TypeId} {o : OS α} {lo S hi : Nat} {w : World} {v : Value} {xs : List α} (h : Acc E o lo S hi w v xs) : ∃ a cap, v = .slice a xs.length cap := by
  obtain ⟨fp, ⟨v1, css, fps, hv, rfl, hrow, hrows⟩, _⟩ := h
  simp at hv
  subst hv
  obtain ⟨a, cap, rfl, _⟩ := own_form hrow
  exact ⟨a, cap, rfl⟩
theorem Acc.form3 {α : Type} {E : TypeId} {o : OS α} {lo S hi : Nat} {w : World} {v : Value} {xs : List α} (h : Acc E o lo S hi w v xs) : ∃ a n cap, v = .slice a n cap := by
  obtain ⟨a, cap, h⟩ := h.form
  exact ⟨_, _, _, h⟩
theorem Acc.wide {α : Type} {E : TypeId} {o : OS α} {lo S S' hi hi' : Nat} {w : World} {v : Value} {xs : List α} (h : Acc E o lo S hi w v xs) (hS : S' ≤ S) (hh : hi ≤ hi') : Acc E o lo S' hi' w v xs := by
  obtain ⟨fp, h1, h2, h3⟩ := h
  exact ⟨fp, h1, h2, fun k hk => by have := h3 k hk; omega⟩
theorem own_int {lo hi : Nat} {w : World} {u : Int} (hu : I64 u) : Own O.int lo hi w [.int .i64 u] u := ⟨[], ⟨rfl, hu, rfl⟩, by simp, by simp⟩
theorem own_str {lo hi : Nat} {w : World} {s : ByteArray} (hs : s.size ≤ 9223372036854775807) : Own O.str lo hi w [.string s] s := ⟨[], ⟨rfl, hs, rfl⟩, by simp, by simp⟩

theorem wpList_acc {α : Type} {T E size bytes : Nat} {z : Value} (hT : Tryd.prog.underlying T = some (.slice E)) (hE : (Tryd.prog.info? E).map (fun i => (i.zero, i.size, i.bytes)) = some (some z, size, bytes)) (hz : z.cells.size = size) (hpos : 0 < size) (hby : bytes ≤ 1000)
    {o' : OS α} (hsz : o'.size = size) {lo S hi9 h1 h2 g9 : Nat} {W0 W : World} {ops : Array Oper} {rest : List Oper} {o : Oper} {a : Act} {Q : Exit → Act → World → Prop}
    (s x : Operand) (v : Value) (xs : List α) (c : List Value) (y : α)
    (hown : Acc E o' lo S hi9 W v xs) (hy : Own o' h1 h2 W c y) (hone : ∀ u ∈ c, u.oneCell' = true) (hS1 : S ≤ h1) (hhi : hi9 ≤ h1) (hh : h1 ≤ h2) (hW : h2 ≤ W.heap.size) (ht : Turn lo (lo + 1) W0 W) (hS : W0.heap.size = S) (hlo : lo < S) (hn : xs.length ≤ 100000000) (hg9 : W.heap.size = g9)
    (hgd : o.guard = none) (ho : o.op = .call { callee := .builtin .append, args := #[s, x], argTypes := #[T, T] })
    (hs : a.eval s = v) (hx : a.eval x = .slice (some ⟨g9, 0, none⟩) 1 1)
    (h : ∀ v' w', Acc E o' lo S w'.heap.size w' v' (xs ++ [y]) → Turn lo (lo + 1) W0 w' → W.heap.size < w'.heap.size → wpList Tryd.prog ops Q rest (a.put o.dst v') w') :
    wpList Tryd.prog ops Q (o :: rest) a (W.alloc (.cells c.toArray E)) := by
  subst hg9
  obtain ⟨i, hi, hz0, hz1, hz2⟩ := info_parts hE
  obtain ⟨fp, ⟨v1, css, fps, hv, rfl, hrow, hrows⟩, hnd, hlim⟩ := hown
  obtain ⟨fy, hyr, hynd, hylim⟩ := hy
  have hts := ht.size
  simp at hv
  subst hv
  obtain ⟨av, cap, rfl, _⟩ := own_form hrow
  have hclen : c.length = size := by rw [← hsz]; exact o'.len hyr
  rw [hsz] at hrow
  have hnl := List.nodup_append.1 hnd
  have hnew : Below W.heap.size W (W.alloc (.cells c.toArray E)) := (Below.refl _ _).alloc (Nat.le_refl _) _
  have hrow1 := own_below hrow hnew (Nat.le_refl _)
  have hrlen := o'.rows_len hrows
  have hlt : ∀ k ∈ bl (.slice av xs.length cap) ++ fps.flatten, k < W.heap.size := fun k hk => by have := (hlim k hk).2; omega
  have hby2 : (xs.length + 1) * bytes ≤ 140737488355328 := Nat.le_trans (Nat.mul_le_mul (show xs.length + 1 ≤ 100000001 by omega) hby) (by decide)
  have hfy : ∀ k ∈ fy, k ∉ bl (.slice av xs.length cap) ++ fps.flatten := fun k hk hm => by have := (hlim k hm).2; have := hylim k hk; omega
  have fin : ∀ (v' : Value) (w' : World), w'.ownsRow 0 E size v' (xs.length + 1) (css.flatten ++ c) → (∀ k, k ∈ fps.flatten ++ fy → w'.heap[k]? = W.heap[k]?) → Turn lo (lo + 1) W0 w' → W.heap.size < w'.heap.size →
      (∀ k ∈ bl v', ((k = lo ∨ S ≤ k) ∧ k < w'.heap.size) ∧ k ∉ fps.flatten ∧ k ∉ fy) → wpList Tryd.prog ops Q rest (a.put o.dst v') w' := by
    intro v' w' h3 h4 h5 h6 h7
    refine h v' w' ⟨bl v' ++ (fps ++ [fy]).flatten, ⟨v', css ++ [c], fps ++ [fy], rfl, rfl, ?_, ?_⟩, ?_, ?_⟩ h5 h6
    · rw [hsz]; simpa using h3
    · exact o'.rows_snoc (o'.frame hyr (fun k hk => h4 k (List.mem_append_right _ hk))) (o'.rows_frame hrows (fun k hk => h4 k (List.mem_append_left _ hk)))
    · rw [List.flatten_append, List.nodup_append]
      refine ⟨by unfold bl; cases v'.ownBlock <;> simp, ?_, ?_⟩
      · rw [List.nodup_append]
        refine ⟨hnl.2.1, by simpa using hynd, ?_⟩
        intro p hp q hq e
        subst e
        exact hfy p (by simpa using hq) (List.mem_append_right _ hp)
      · intro p hp q hq e
        subst e
        have h8 := h7 p hp
        rcases List.mem_append.1 hq with hq | hq
        · exact h8.2.1 hq
        · exact h8.2.2 (by simpa using hq)
    · intro k hk
      rcases List.mem_append.1 hk with hk | hk
      · exact (h7 k hk).1
      · simp only [List.flatten_append, List.mem_append] at hk
        rcases hk with hk | hk
        · have := hlim k (List.mem_append_right _ hk); omega
        · have := hylim k (by simpa using hk); omega
  by_cases hroom : xs.length + 1 ≤ cap
  · -- there is room: the same block
    rcases hrow1.2 with ⟨hv, _⟩ | ⟨g, cap', cur, hv, hB0, hg, hnc, hcm, hcs, htake⟩
    · simp at hv; omega
    · simp at hv
      obtain ⟨rfl, rfl⟩ := hv
      refine wpList_append_fits _ hgd s x T ho 0 E i size hT hi hz1 g xs.length cap css.flatten hs hrow1 ⟨W.heap.size, 0, none⟩ 1 1 c hx (by omega) (fresh_cells W c E) hone hroom ?_
      intro w' h3 h4
      have hgB := hlim g (by simp [bl, Value.ownBlock])
      refine fin _ w' h3 (fun k hk => ?_) ?_ ?_ ?_
      · have hkl : k < W.heap.size := by
          rcases List.mem_append.1 hk with hk | hk
          · exact hlt k (List.mem_append_right _ hk)
          · have := hylim k hk; omega
        rw [h4.block k (by simp; omega) ?_, Below.heap_alloc W _ k hkl]
        intro e
        simp at e
        subst e
        rcases List.mem_append.1 hk with hk | hk
        · exact hnl.2.2 k (by simp [bl, Value.ownBlock]) k hk rfl
        · exact hfy k hk (by simp [bl, Value.ownBlock])
      · refine ⟨h4.os.trans ht.os, h4.tape.trans ht.tape, h4.output.trans ht.output, by have := h4.size; simp at this; omega, fun k hk hx => ?_⟩
        rw [h4.block k (by simp; omega) (by intro e; simp at e; omega), Below.heap_alloc W _ k (by omega)]
        exact ht.block k hk hx
      · have := h4.size; simp at this; omega
      · intro k hk
        simp [bl, Value.ownBlock] at hk
        subst hk
        refine ⟨⟨hgB.1, by have := h4.size; simp at this; omega⟩, fun hm => hnl.2.2 k (by simp [bl, Value.ownBlock]) k hm rfl, fun hm => ?_⟩
        exact hfy k hm (by simp [bl, Value.ownBlock])
  · refine wpList_append_grows _ hgd s x T ho E i z size bytes hT hi hz0 hz1 hz2 hz hpos av xs.length cap css.flatten hs ?_ hrow1.1 ?_ ⟨W.heap.size, 0, none⟩ 1 1 c hx (by omega) (fresh_cells W c E) hone (by omega) (by unfold maxLen; omega) hby2 ?_
    · intro e
      subst e
      rcases hrow1.2 with ⟨hv, h0⟩ | ⟨g, cap', cur, hv, _⟩
      · simp at hv; exact ⟨h0, hv.2⟩
      · simp at hv
    · intro b hbv j u hu
      obtain ⟨g, hg, hcell⟩ := own_cell hrow1 j u hu
      rw [hbv] at hg
      simp at hg
      subst hg
      rw [add_zero_addr]
      exact hcell
    · intro v' w' h3 h4
      refine fin v' w' (own_base h3 (Nat.zero_le _)) (fun k hk => ?_) ?_ ?_ ?_
      · have hkl : k < W.heap.size := by
          rcases List.mem_append.1 hk with hk | hk
          · exact hlt k (List.mem_append_right _ hk)
          · have := hylim k hk; omega
        rw [h4.block k (by simp; omega) (by simp), Below.heap_alloc W _ k hkl]
      · refine ⟨h4.os.trans ht.os, h4.tape.trans ht.tape, h4.output.trans ht.output, by have := h4.size; simp at this; omega, fun k hk hx => ?_⟩
        rw [h4.block k (by simp; omega) (by simp), Below.heap_alloc W _ k (by omega)]
        exact ht.block k hk hx
      · have := h4.size; simp at this; omega
      · intro k hk
        have h5 := h3.lt k (by simpa [bl] using hk)
        simp at h5
        refine ⟨⟨by omega, by omega⟩, fun hm => ?_, fun hm => ?_⟩
        · have := hlt k (List.mem_append_right _ hm); omega
        · have := hylim k hm; omega

/-- 'out = append(out, u)' for ints. -/
theorem wpList_accI {lo S hi9 g9 : Nat} {W0 W : World} {ops : Array Oper} {rest : List Oper} {o : Oper} {a : Act} {Q : Exit → Act → World → Prop}
    (s x : Operand) (v : Value) (xs : List Int) (u : Int)
    (hown : Acc 3 O.int lo S hi9 W v xs) (ht : Turn lo (lo + 1) W0 W) (hS : W0.heap.size = S) (hlo : lo < S) (hhi : hi9 ≤ W.heap.size) (hu : I64 u) (hn : xs.length ≤ 100000000) (hg9 : W.heap.size = g9)
    (hgd : o.guard = none) (ho : o.op = .call { callee := .builtin .append, args := #[s, x], argTypes := #[33, 33] })
    (hs : a.eval s = v) (hx : a.eval x = .slice (some ⟨g9, 0, none⟩) 1 1)
    (h : ∀ v' w', Acc 3 O.int lo S w'.heap.size w' v' (xs ++ [u]) → Turn lo (lo + 1) W0 w' → W.heap.size < w'.heap.size → wpList Tryd.prog ops Q rest (a.put o.dst v') w') :
    wpList Tryd.prog ops Q (o :: rest) a (W.alloc (.cells #[.int .i64 u] 3)) := by
  have hts := ht.size
  exact wpList_acc Tryd.underlying33 infoInt rfl (by decide) (by decide) rfl s x v xs [.int .i64 u] u hown (own_int (lo := W.heap.size) (hi := W.heap.size) hu) (by intro z hz; simp at hz; subst hz; rfl) (by omega) hhi (Nat.le_refl _) (Nat.le_refl _) ht hS hlo hn hg9 hgd ho hs hx h

end Go.Proofs.YtigcagplbihenaaDoor
