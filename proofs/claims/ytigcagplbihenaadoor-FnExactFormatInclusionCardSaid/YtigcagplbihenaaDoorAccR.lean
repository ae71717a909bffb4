/- A slice that a region which draws its order appends to. -/
import Derived.Test.YtigcagplbihenaaDoorAcc
import Derived.Test.YtigcagplbihenaaDoorCopy
import Derived.Maps.AppendAt
namespace Go.Proofs.YtigcagplbihenaaDoor
open Go.RowKit
set_option linter.unusedVariables false
set_option linter.unusedSimpArgs false

/-- append of one element, run. -/
theorem run_acc {α : Type} {T E size bytes : Nat} {z : Value} (hT : Tryd.prog.underlying T = some (.slice E)) (hE : (Tryd.prog.info? E).map (fun i => (i.zero, i.size, i.bytes)) = some (some z, size, bytes)) (hz : z.cells.size = size) (hpos : 0 < size) (hby : bytes ≤ 1000)
    {o' : OS α} (hsz : o'.size = size) {la lo S hi9 h1 h2 : Nat} {W0 W W1 : World} (ty : TypeId)
    (v : Value) (xs : List α) (c : List Value) (y : α)
    (hown : Acc E o' la S hi9 W v xs) (hy : Own o' h1 h2 W c y) (hone : ∀ u ∈ c, u.oneCell' = true) (hS1 : S ≤ h1) (hhi : hi9 ≤ h1) (hh : h1 ≤ h2) (hW : h2 ≤ W.heap.size) (ht : Turn lo (lo + 1) W0 W) (hS : W0.heap.size = S) (hla : la = lo ∨ S ≤ la) (hlW : la ≤ W.heap.size) (hn : xs.length ≤ 100000000)
    (hW1 : W1 = W.alloc (.cells c.toArray E)) :
    ∃ v' w', (Builtin.append_ #[T, T] ty #[v, .slice (some ⟨W.heap.size, 0, none⟩) 1 1]).run Tryd.prog W1 = .ok v' w' ∧ Acc E o' la S w'.heap.size w' v' (xs ++ [y]) ∧ Turn lo (lo + 1) W0 w' ∧ W.heap.size < w'.heap.size ∧ (∀ k, k < S → k ≠ la → w'.heap[k]? = W.heap[k]?) := by
  subst hW1
  obtain ⟨i, hi, hz0, hz1, hz2⟩ := info_parts hE
  obtain ⟨fp, ⟨v1, css, fps, hv, rfl, hrow, hrows⟩, hnd, hlim⟩ := hown
  obtain ⟨fy, hyr, hynd, hylim⟩ := hy
  have hts := ht.size
  simp at hv
  subst hv
  have hclen : c.length = size := by rw [← hsz]; exact o'.len hyr
  rw [hsz] at hrow
  have hnl := List.nodup_append.1 hnd
  have hnew : Below W.heap.size W (W.alloc (.cells c.toArray E)) := (Below.refl _ _).alloc (Nat.le_refl _) _
  have hrow1 := own_below hrow hnew (Nat.le_refl _)
  have hlt : ∀ k ∈ bl v ++ fps.flatten, k < W.heap.size := fun k hk => by have := (hlim k hk).2; omega
  have hby2 : (xs.length + 1) * bytes ≤ 140737488355328 := Nat.le_trans (Nat.mul_le_mul (show xs.length + 1 ≤ 100000001 by omega) hby) (by decide)
  have hfy : ∀ k ∈ fy, k ∉ bl v ++ fps.flatten := fun k hk hm => by have := (hlim k hm).2; have := hylim k hk; omega
  obtain ⟨v', w', hrun, h3, h4, _, h5⟩ := run_append_own_at (P := Tryd.prog) (W.alloc (.cells c.toArray E)) 0 T ty E i z size bytes hT hi hz0 hz1 hz2 hz hpos v xs.length css.flatten hrow1 ⟨W.heap.size, 0, none⟩ 1 1 c (by omega) (fresh_cells W c E) hone (by unfold maxLen; omega) hby2 (Nat.zero_le _)
  have hsz' := h4.size
  simp at hsz'
  have hv' : ∀ k ∈ bl v', k ∈ bl v ∨ k = W.heap.size + 1 := by
    intro k hk
    have hk' : v'.ownBlock = some k := by simpa [bl] using hk
    rcases h5 with h5 | h5
    · left; simp only [bl]; rw [← h5, hk']; simp
    · right
      rw [h5] at hk'
      simp at hk'
      omega
  have hkeep : ∀ k, k < W.heap.size → k ∉ bl v → w'.heap[k]? = W.heap[k]? := by
    intro k hk hn
    rw [h4.block k (by simp; omega) (fun e => hn (by simp only [bl]; rw [← e]; simp)), Below.heap_alloc W _ k hk]
  refine ⟨v', w', hrun, ⟨bl v' ++ (fps ++ [fy]).flatten, ⟨v', css ++ [c], fps ++ [fy], rfl, rfl, ?_, ?_⟩, ?_, ?_⟩, ?_, by omega, fun k hk hx => hkeep k (by omega) (fun hb => by have := hlim k (List.mem_append_left _ hb); omega)⟩
  · rw [hsz]; simpa using h3
  · have hk2 : ∀ k, k ∈ fps.flatten ++ fy → w'.heap[k]? = W.heap[k]? := by
      intro k hk
      rcases List.mem_append.1 hk with hk | hk
      · exact hkeep k (hlt k (List.mem_append_right _ hk)) (fun hb => hnl.2.2 k hb k hk rfl)
      · exact hkeep k (by have := hylim k hk; omega) (fun hb => hfy k hk (List.mem_append_left _ hb))
    exact o'.rows_snoc (o'.frame hyr (fun k hk => hk2 k (List.mem_append_right _ hk))) (o'.rows_frame hrows (fun k hk => hk2 k (List.mem_append_left _ hk)))
  · rw [List.flatten_append, List.nodup_append]
    refine ⟨by unfold bl; cases v'.ownBlock <;> simp, ?_, ?_⟩
    · rw [List.nodup_append]
      refine ⟨hnl.2.1, by simpa using hynd, ?_⟩
      intro p hp q hq e
      subst e
      exact hfy p (by simpa using hq) (List.mem_append_right _ hp)
    · intro p hp q hq e
      subst e
      rcases hv' p hp with h8 | h8
      · rcases List.mem_append.1 hq with hq | hq
        · exact hnl.2.2 p h8 p hq rfl
        · exact hfy p (by simpa using hq) (List.mem_append_left _ h8)
      · rcases List.mem_append.1 hq with hq | hq
        · have := hlt p (List.mem_append_right _ hq); omega
        · have := hylim p (by simpa using hq); omega
  · intro k hk
    rcases List.mem_append.1 hk with hk | hk
    · rcases hv' k hk with h8 | h8
      · have := hlim k (List.mem_append_left _ h8); omega
      · have h9 := (h3.lt k (by simpa [bl] using hk)).2
        omega
    · simp only [List.flatten_append, List.mem_append] at hk
      rcases hk with hk | hk
      · have := hlim k (List.mem_append_right _ hk); omega
      · have := hylim k (by simpa using hk); omega
  · refine ⟨h4.os.trans ht.os, h4.tape.trans ht.tape, h4.output.trans ht.output, by omega, fun k hk hx => ?_⟩
    rw [hkeep k (by omega) (fun hb => ?_)]
    · exact ht.block k hk hx
    · have := hlim k (List.mem_append_left _ hb); omega

theorem Turn.setIn {lo hi : Nat} {a w : World} (h : Turn lo hi a w) {p : Addr} (h1 : lo ≤ p.block) (h2 : p.block < hi) (u : Value) : Turn lo hi a (w.setCell p u) := by
  have hb := Below.setCell (B := p.block) (Below.refl _ w) (Nat.le_refl _) u
  exact ⟨hb.os.trans h.os, hb.tape.trans h.tape, hb.output.trans h.output, Nat.le_trans h.size hb.size, fun k hk hx => by rw [Below.heap_setCell _ _ _ _ (by omega)]; exact h.block k hk hx⟩
theorem Acc.setOut {α : Type} {E : TypeId} {o : OS α} {lo S hi hi' : Nat} {w : World} {v : Value} {xs : List α} (h : Acc E o lo S hi w v xs) {p : Addr} (u : Value) (h1 : p.block < S) (h2 : p.block ≠ lo) (hh : hi ≤ hi') : Acc E o lo S hi' (w.setCell p u) v xs := by
  obtain ⟨fp, h3, h4, h5⟩ := h
  exact ⟨fp, (O.slice E o).frame h3 (fun k hk => Below.heap_setCell _ _ _ _ (by have := h5 k hk; omega)), h4, fun k hk => by have := h5 k hk; omega⟩

end Go.Proofs.YtigcagplbihenaaDoor
