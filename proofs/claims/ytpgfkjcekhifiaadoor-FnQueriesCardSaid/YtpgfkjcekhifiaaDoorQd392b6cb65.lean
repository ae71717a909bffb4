/- Texts joined for one claim: CompF. -/
import Derived.Test.YtpgfkjcekhifiaaDoorQ621e97d861
import Derived.Test.YtpgfkjcekhifiaaDoorQade03a00d9
import Derived.Test.YtpgfkjcekhifiaaDoorQe6e654f134
import Derived.Test.YtpgfkjcekhifiaaDoorQe474a92ab8
import Derived.Test.YtpgfkjcekhifiaaDoorQ96505b99ef
import Derived.Test.YtpgfkjcekhifiaaDoorQc1742dcef0
import Derived.Lib.SliceRun

/- Contracts: rows compacted by the library (slices.CompactFunc); rows sorted, each once (impl.sorted). -/
namespace Go.Proofs.YtpgfkjcekhifiaaDoor
open Go.RowKit Go.Sort
set_option linter.unusedVariables false
set_option linter.unusedSimpArgs false
set_option synthInstance.maxSize 2000
set_option synthInstance.maxHeartbeats 400000

theorem At.cell {g c j : Nat} {W : World} {vs : List Value} {u : Value} (h : At g c W vs) (hj : vs[j]? = some u) : W.cell? ⟨g, j, none⟩ = some u ∧ W.frozen? ⟨g, j, none⟩ = false := by
  obtain ⟨cur, hb, hs, ht⟩ := h.ex
  have hjl := (List.getElem?_eq_some_iff.1 hj).1
  have h1 : (cur.toList.take vs.length)[j]? = some u := by rw [ht]; exact hj
  rw [List.getElem?_take_of_lt hjl] at h1
  refine ⟨?_, ?_⟩
  · simp only [World.cell?, hb]; simpa using h1
  · simp only [World.frozen?, hb]; simp

theorem At.drew {g c : Nat} {W W' : World} {vs : List Value} (h : At g c W vs) (hd : Drew W W') : At g c W' vs := by
  obtain ⟨m, rfl⟩ := hd
  exact ⟨h.ex, h.le, h.cap⟩

theorem At.set {g c k : Nat} {W : World} {vs : List Value} (h : At g c W vs) (u : Value) : At g c (W.setCell ⟨g, k, none⟩ u) (vs.set k u) := by
  obtain ⟨cur, hb, hs, ht⟩ := h.ex
  refine ⟨⟨cur.setIfInBounds k u, ?_, by simp [hs], ?_⟩, by simpa using h.le, h.cap⟩
  · rw [setCell_eq]
    simp only [mapBlock, Array.getElem?_modify, if_true, hb, Option.map_some, onCells]
  · rw [List.length_set, Array.toList_setIfInBounds, List.take_set, ht]

theorem But.set {g k : Nat} {w W : World} (h : But g w W) (u : Value) : But g w (W.setCell ⟨g, k, none⟩ u) := fun i h1 h2 => by
  rw [← h i h1 h2]; exact Below.heap_setCell _ _ _ _ h1

theorem At.pre {g c : Nat} {W : World} {us vs : List Value} (h : At g c W (us ++ vs)) : At g c W us := by
  obtain ⟨cur, hb, hs, ht⟩ := h.ex
  have hle := h.le
  rw [List.length_append] at hle
  refine ⟨⟨cur, hb, hs, ?_⟩, by omega, h.cap⟩
  have h1 := congrArg (List.take us.length) ht
  rw [List.take_take, List.length_append, Nat.min_eq_left (by omega), List.take_left' rfl] at h1
  exact h1

theorem El.ints {w W : World} {g : Nat} (x : El w g) (hb : But g w W) : ∃ a cap, x.v = .slice a x.xs.length cap ∧ Ints W a x.xs.length x.xs := by
  obtain ⟨a, cap, h, ho, _⟩ := oI_own (hb.rep x)
  simp at h
  exact ⟨a, cap, h, ho.ints⟩

theorem setCells_pre {g c : Nat} : ∀ (zs : List Value) {W : World} {vs : List Value} {o : Nat}, At g c W vs → vs.length ≤ o → At g c (W.setCells g o zs) vs
  | [], W, vs, o, h, _ => h
  | z :: t, W, vs, o, h, ho => by
    have h1 := h.set (k := o) z
    rw [List.set_eq_of_length_le ho] at h1
    exact setCells_pre t h1 (by omega)
theorem setCells_turn {g : Nat} : ∀ (zs : List Value) (W : World) (o : Nat), Turn g (g + 1) W (W.setCells g o zs)
  | [], W, o => turn_refl _ _ _
  | z :: t, W, o => ((turn_refl g (g + 1) W).setIn (p := ⟨g, o, none⟩) (Nat.le_refl _) (Nat.lt_succ_self _) z).trans (setCells_turn t _ (o + 1))
theorem turn_drew {lo hi : Nat} {a b : World} (h : Drew a b) : Turn lo hi a b := by
  obtain ⟨m, rfl⟩ := h
  exact ⟨rfl, rfl, rfl, Nat.le_refl _, fun _ _ _ => rfl⟩
theorem Turn.but {g : Nat} {w a b : World} (h : But g w a) (hs : w.heap.size ≤ a.heap.size) (k : Turn g (g + 1) a b) : But g w b := fun i h1 h2 =>
  (k.block i (by omega) (by omega)).trans (h i h1 h2)
theorem dedRow_skip {α : Type} {key : α → List Int} {d : List α} {p : Nat} (h : keepAt key d p = false) : dedRow key d (p + 1) = dedRow key d p := by
  rw [dedRow, dedRow, dedTo_skip h]

theorem But.sortA {w : World} {g m : Nat} (dk : Array (El w g)) (os : Array Obj) : But g w (Go.Proofs.sortWorld El.v w g 0 m dk os) := fun k hk hs => by
  unfold Go.Proofs.sortWorld
  rw [heap_grow_old _ _ (by rw [size_putRow]; exact hs)]
  simp only [putRow, mapBlock, Array.getElem?_modify]
  rw [if_neg (Ne.symm hk)]
  rfl

theorem sortW_below {w : World} {g m lo : Nat} (dk : Array (El w g)) (os : Array Obj) (hl : lo ≤ w.heap.size) (hg : lo ≤ g) : Below lo w (Go.Proofs.sortWorld El.v w g 0 m dk os) :=
  ⟨rfl, rfl, rfl, by unfold Go.Proofs.sortWorld; rw [size_grow, size_putRow]; exact Nat.le_add_right _ _, fun k hk => But.sortA dk os k (by omega) (by omega)⟩

theorem own_nilptr {lo hi n c : Nat} {w : World} {rows : List (List Int)} {a : Option Addr} (h : Own oII lo hi w [.slice a n c] rows) : (a = none ∧ n = 0 ∧ c = 0 ∧ rows = []) ∨ ∃ g, a = some ⟨g, 0, none⟩ ∧ rows.length = n := by
  obtain ⟨fp, ⟨v, css, fs, hv, rfl, h1, h2⟩, hn, hb⟩ := h
  simp only [List.cons.injEq, and_true] at hv
  subst hv
  have hr := oI.rows_len h2
  rcases h1.2 with ⟨h9, h0⟩ | ⟨g, cap, cur, hv', _, _, _, _, _, _⟩
  · simp at h9
    exact .inl ⟨h9.1, h9.2.1, h9.2.2, List.eq_nil_of_length_eq_zero h0⟩
  · simp at hv'
    exact .inr ⟨g, hv'.1, hv'.2.1.symm⟩

end Go.Proofs.YtpgfkjcekhifiaaDoor
