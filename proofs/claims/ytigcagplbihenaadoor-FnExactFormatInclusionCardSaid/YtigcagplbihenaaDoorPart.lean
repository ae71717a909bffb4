/- A slice that a call makes and fills element by element: what holds on the way. -/
import Derived.Test.YtigcagplbihenaaDoorUniI
import Derived.Test.YtigcagplbihenaaDoorApp
namespace Go.Proofs.YtigcagplbihenaaDoor
open Go.RowKit
set_option linter.unusedVariables false
set_option linter.unusedSimpArgs false

/-- Cells stored one behind the other. -/
def setCells (w : World) (g : Nat) : Nat → List Value → World
  | _, [] => w
  | i, c :: cs => setCells (w.setCell ⟨g, i, none⟩ c) g (i + 1) cs
theorem setCells_size (g : Nat) : ∀ (cs : List Value) (w : World) (i : Nat), (setCells w g i cs).heap.size = w.heap.size
  | [], _, _ => rfl
  | c :: cs, w, i => by rw [setCells, setCells_size g cs]; simp [World.setCell]
theorem setCells_other (g : Nat) : ∀ (cs : List Value) (w : World) (i k : Nat), k ≠ g → (setCells w g i cs).heap[k]? = w.heap[k]?
  | [], _, _, _, _ => rfl
  | c :: cs, w, i, k, h => by rw [setCells, setCells_other g cs _ _ _ h]; exact Below.heap_setCell _ _ _ _ h
theorem setCells_only (g : Nat) (cs : List Value) (w : World) (i : Nat) : Only [g] w (setCells w g i cs) := by
  have h : ∀ (cs : List Value) (w : World) (i : Nat), (setCells w g i cs).os = w.os ∧ (setCells w g i cs).tape = w.tape ∧ (setCells w g i cs).output = w.output := by
    intro cs
    induction cs with
    | nil => intro w i; exact ⟨rfl, rfl, rfl⟩
    | cons c cs ih => intro w i; exact ih (w.setCell ⟨g, i, none⟩ c) (i + 1)
  exact ⟨(h cs w i).1, (h cs w i).2.1, (h cs w i).2.2, setCells_size g cs w i, fun k hk => setCells_other g cs w i k (by simpa using hk)⟩
/-- The block behind stores. -/
theorem setCells_block (g E : Nat) : ∀ (cs : List Value) (w : World) (i : Nat) (A C M : List Value), w.heap[g]? = some (.cells (A ++ (M ++ C)).toArray E) → A.length = i → M.length = cs.length →
    (setCells w g i cs).heap[g]? = some (.cells (A ++ (cs ++ C)).toArray E)
  | [], w, i, A, C, M, h, _, hM => by
    have : M = [] := List.eq_nil_of_length_eq_zero (by simpa using hM)
    subst this
    exact h
  | c :: cs, w, i, A, C, M, h, hA, hM => by
    cases M with
    | nil => simp at hM
    | cons m M =>
      have h2 := heap_setCell_same w g i _ E c h
      have e : ((A ++ (m :: M ++ C)).toArray.setIfInBounds i c) = ((A ++ [c]) ++ (M ++ C)).toArray := by
        apply Array.ext'
        simp only [Array.toList_setIfInBounds]
        rw [List.set_append_right _ _ (by omega), show i - A.length = 0 by omega]
        simp
      rw [e] at h2
      have := setCells_block g E cs _ (i + 1) (A ++ [c]) C M h2 (by simp [hA]) (by simpa using hM)
      rw [setCells, this]
      simp

/-- The first k elements of the slice in block g are owned as xs has them; the rest is nought yet. -/
def Part {α : Type} (E : TypeId) (o : OS α) (z : List Value) (B : Nat) (w : World) (g n k : Nat) (xs : List α) : Prop :=
  ∃ css fps, w.heap[g]? = some (.cells (css.flatten ++ (List.replicate (n - k) z).flatten).toArray E) ∧ o.rows w css (xs.take k) fps ∧ (g :: fps.flatten).Nodup ∧ (∀ p ∈ fps.flatten, B ≤ p ∧ p < w.heap.size) ∧ B ≤ g ∧ g < w.heap.size

theorem Part.below {α : Type} {E : TypeId} {o : OS α} {z : List Value} {B C : Nat} {w w' : World} {g n k : Nat} {xs : List α} (h : Part E o z B w g n k xs) (hb : Below C w w') (hC : w.heap.size ≤ C) : Part E o z B w' g n k xs := by
  obtain ⟨css, fps, h1, h2, h3, h4, h5, h6⟩ := h
  exact ⟨css, fps, by rw [hb.block g (by omega)]; exact h1, o.rows_frame h2 (fun p hp => hb.block p (by have := h4 p hp; omega)), h3, fun p hp => by have := h4 p hp; have := hb.size; omega, h5, by have := hb.size; omega⟩
/-- The cells that stand for the next element are there and can be written. -/
theorem Part.cell {α : Type} {E : TypeId} {o : OS α} {z : List Value} {B : Nat} {w : World} {g n k : Nat} {xs : List α} (h : Part E o z B w g n k xs) (hz : z.length = o.size) (hk : k < n) (hx : k ≤ xs.length) (j : Nat) (hj : j < o.size) :
    (∃ u, w.cell? ⟨g, k * o.size + j, none⟩ = some u) ∧ w.frozen? ⟨g, k * o.size + j, none⟩ = false := by
  obtain ⟨css, fps, h1, h2, _⟩ := h
  have hl := (o.rows_len h2).2.2
  have hlen : css.flatten.length = k * o.size := by rw [hl, List.length_take, Nat.min_eq_left hx]
  constructor
  · have : k * o.size + j < (css.flatten ++ (List.replicate (n - k) z).flatten).length := by
      rw [List.length_append, hlen]
      have h3 : ((List.replicate (n - k) z).flatten).length = (n - k) * o.size := by simp [hz]
      rw [h3]
      have : o.size ≤ (n - k) * o.size := Nat.le_mul_of_pos_left _ (by omega)
      omega
    refine ⟨(css.flatten ++ (List.replicate (n - k) z).flatten)[k * o.size + j], ?_⟩
    simp only [World.cell?, h1]
    simp only [Option.isSome_none, Bool.false_eq_true, if_false]
    rw [List.getElem?_toArray, List.getElem?_eq_getElem this]
  · simp [World.frozen?, h1]
/-- The next element comes in. -/
theorem Part.step {α : Type} {E : TypeId} {o : OS α} {z : List Value} {B B1 B2 : Nat} {w : World} {g n k : Nat} {xs : List α} {cs : List Value} {x : α} (h : Part E o z B w g n k xs) (hz : z.length = o.size) (hk : k < n) (hx : xs[k]? = some x)
    (hy : Own o B1 B2 w cs x) (hB1 : g < B1)
    (hold : ∃ w0 : World, Part E o z B w0 g n k xs ∧ w0.heap.size ≤ B1 ∧ ∀ p, p < w0.heap.size → w.heap[p]? = w0.heap[p]?) (hB2 : B2 ≤ w.heap.size) (hB : B ≤ B1) :
    Part E o z B (setCells w g (k * o.size) cs) g n (k + 1) xs := by
  obtain ⟨w0, ⟨css, fps, h1, h2, h3, h4, h5, h6⟩, hs, hsame⟩ := hold
  obtain ⟨fy, hr, hn, hl⟩ := hy
  have h1' : w.heap[g]? = some (.cells (css.flatten ++ (List.replicate (n - k) z).flatten).toArray E) := by rw [hsame g h6]; exact h1
  have h2' := o.rows_frame h2 (fun p hp => hsame p (h4 p hp).2)
  have hlen : css.flatten.length = k * o.size := by
    rw [(o.rows_len h2).2.2]
    have := (List.getElem?_eq_some_iff.1 hx).1
    rw [List.length_take, Nat.min_eq_left (by omega)]
  have hcl := o.len hr
  have hO := setCells_only g cs w (k * o.size)
  have hfy : ∀ p ∈ fy, p ≠ g := fun p hp e => by have := hl p hp; omega
  have hfps : ∀ p ∈ fps.flatten, p ≠ g := fun p hp e => by subst e; exact (List.nodup_cons.1 h3).1 hp
  refine ⟨css ++ [cs], fps ++ [fy], ?_, ?_, ?_, ?_, h5, ?_⟩
  · have e : (List.replicate (n - k) z).flatten = z ++ (List.replicate (n - (k + 1)) z).flatten := by
      rw [show n - k = (n - (k + 1)) + 1 by omega, List.replicate_succ]; simp
    rw [e] at h1'
    have := setCells_block g E cs w (k * o.size) css.flatten _ z h1' hlen (by rw [hz, hcl])
    rw [this]
    simp
  · rw [take_snoc' xs k x hx]
    refine o.rows_snoc (o.frame hr (fun p hp => hO.block p (by simpa using hfy p hp))) (o.rows_frame h2' (fun p hp => hO.block p (by simpa using hfps p hp)))
  · rw [List.flatten_append]
    refine List.nodup_cons.2 ⟨fun hm => ?_, List.nodup_append.2 ⟨(List.nodup_cons.1 h3).2, by simpa using hn, fun p hp q hq e => ?_⟩⟩
    · rcases List.mem_append.1 hm with hm | hm
      · exact hfps g hm rfl
      · exact hfy g (by simpa using hm) rfl
    · subst e
      have := (h4 p hp).2
      have := hl p (by simpa using hq)
      omega
  · intro p hp
    rw [setCells_size]
    rw [List.flatten_append] at hp
    rcases List.mem_append.1 hp with hp | hp
    · exact ⟨(h4 p hp).1, o.rows_lt h2' p hp⟩
    · have := hl p (by simpa using hp); omega
  · rw [setCells_size]
    have h7 := (Array.getElem?_eq_some_iff.1 h1').1
    exact h7
theorem Part.done {α : Type} {E : TypeId} {o : OS α} {z : List Value} {B : Nat} {w : World} {g n : Nat} {xs : List α} (h : Part E o z B w g n n xs) (hn : xs.length = n) (hm : n ≤ 9223372036854775807) : Own (O.slice E o) B w.heap.size w [.slice (some ⟨g, 0, none⟩) n n] xs := by
  obtain ⟨css, fps, h1, h2, h3, h4, h5, h6⟩ := h
  rw [List.take_of_length_le (by omega)] at h2
  simp only [Nat.sub_self, List.replicate_zero, List.flatten_nil, List.append_nil] at h1
  have hl := (o.rows_len h2).2.2
  refine ⟨g :: fps.flatten, ⟨_, css, fps, rfl, by simp [bl, Value.ownBlock], ⟨by rw [hl], .inr ⟨g, n, css.flatten.toArray, by rw [hn], Nat.zero_le _, h1, by omega, by unfold maxLen; omega, by simp only [List.size_toArray]; rw [hl, hn], ?_⟩⟩, h2⟩, h3, ?_⟩
  · simp only []
    exact List.take_of_length_le (by rw [hl]; exact Nat.le_refl _)
  · intro p hp
    rcases List.mem_cons.1 hp with rfl | hp
    · exact ⟨h5, h6⟩
    · exact h4 p hp

theorem rep_flat {α : Type} (l : List α) (hl : 0 < l.length) : ∀ (n i : Nat), ((List.replicate n l).flatten)[i]? = if i < n * l.length then l[i % l.length]? else none
  | 0, i => by simp
  | n + 1, i => by
    rw [List.replicate_succ, List.flatten_cons]
    by_cases h : i < l.length
    · rw [List.getElem?_append_left h, Nat.mod_eq_of_lt h, if_pos]
      rw [Nat.add_mul]; omega
    · rw [List.getElem?_append_right (by omega), rep_flat l hl n (i - l.length), ← Nat.mod_eq_sub_mod (by omega)]
      by_cases h2 : i < (n + 1) * l.length
      · rw [if_pos h2, if_pos]; rw [Nat.add_mul] at h2; omega
      · rw [if_neg h2, if_neg]; rw [Nat.add_mul] at h2; omega
theorem made_flat (z : Array Value) (n : Nat) (hz : 0 < z.size) : (madeCells z (n * z.size)).toList = (List.replicate n z.toList).flatten := by
  apply List.ext_getElem?
  intro i
  rw [rep_flat z.toList (by simpa using hz) n i]
  simp only [madeCells, Array.toList_map, Array.toList_range, List.getElem?_map, Array.length_toList]
  by_cases h : i < n * z.size
  · rw [if_pos h, List.getElem?_range h]
    have hm : i % z.size < z.size := Nat.mod_lt _ hz
    simp [hm]
  · rw [if_neg h]
    simp; omega

/-- 'make([]T, n)': nothing of it is filled yet. -/
theorem wpList_mkS {α : Type} {T E size bytes : Nat} {z : Value} (hT : Tryd.prog.underlying T = some (.slice E)) (hE : (Tryd.prog.info? E).map (fun i => (i.zero, i.size, i.bytes)) = some (some z, size, bytes)) (hz : z.cells.size = size) (hpos : 0 < size) (hby : bytes ≤ 1000) (o' : OS α) (xs : List α)
    {W : World} {ops : Array Oper} {rest : List Oper} {o : Oper} {a : Act} {Q : Exit → Act → World → Prop} (l c : Operand) (n : Nat) (hn : n ≤ 100000000)
    (hgd : o.guard = none) (ho : o.op = Op.makeSlice T l c) (hl : a.eval l = .int .i64 n) (hc : a.eval c = .int .i64 n)
    (h : ∀ w', Part E o' z.cells.toList W.heap.size w' W.heap.size n 0 xs → Below W.heap.size W w' → W.heap.size < w'.heap.size → wpList Tryd.prog ops Q rest (a.put o.dst (.slice (some ⟨W.heap.size, 0, none⟩) n n)) w') :
    wpList Tryd.prog ops Q (o :: rest) a W := by
  obtain ⟨i, hi, hz0, hz1, hz2⟩ := info_parts hE
  have hb2 : i.bytes * n ≤ 281474976710656 := by
    rw [hz2]
    exact Nat.le_trans (Nat.mul_le_mul hby hn) (by decide)
  refine wpList_make_full W hgd l c T ho W.heap.size E i z size hT hi hz0 hz1 .i64 .i64 n n n hl hc rfl rfl hb2 (by unfold maxLen; omega) (Nat.le_refl _) ?_
  intro w1 hown hgrow
  have hb1 : Below W.heap.size W w1 := (Below.refl _ _).grown hgrow (Nat.le_refl _) (by intro k hk; cases hk)
  have hlt := (hown.lt W.heap.size rfl).2
  refine h w1 ?_ hb1 hlt
  rcases hown.2 with ⟨hv, _⟩ | ⟨g, cap, cur, hv, _, hg, _, _, hcs, htake⟩
  · simp at hv
  · simp at hv
    obtain ⟨rfl, rfl⟩ := hv
    have e1 : cur.toList = (madeCells z.cells (n * size)).toList := by
      rw [← htake, List.take_of_length_le (by simp [hcs])]
    have e2 := made_flat z.cells n (by omega)
    rw [hz] at e2
    rw [e2] at e1
    have e3 : cur = ((List.replicate n z.cells.toList).flatten).toArray := by rw [← e1]
    refine ⟨[], [], ?_, trivial, by simp, by simp, Nat.le_refl _, hlt⟩
    rw [hg, e3, Nat.sub_zero, List.flatten_nil, List.nil_append]

end Go.Proofs.YtigcagplbihenaaDoor
