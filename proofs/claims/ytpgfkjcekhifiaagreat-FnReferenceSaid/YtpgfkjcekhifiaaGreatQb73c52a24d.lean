/- Texts joined for one claim: RowMem. -/
import Derived.Test.YtpgfkjcekhifiaaGreatQ22cca73baf
import Derived.Test.YtpgfkjcekhifiaaGreatQ94813783a4
import Derived.Shelf.SlSortCmp.Whole1

namespace Go.Proofs.YtpgfkjcekhifiaaGreat

open Go.RowKit Go.Sort

set_option linter.unusedVariables false

set_option linter.unusedSimpArgs false

structure El (w : World) (g : Nat) where
  v : Value
  xs : List Int
  fp : List Nat
  rep : oI.rep w [v] xs fp
  off : g ∉ fp

def El.none (w : World) (g : Nat) : El w g := ⟨.slice .none 0 0, [], [], ⟨_, [], [], rfl, by simp [bl, Value.ownBlock], World.ownsRow_nil _ _ _ _, trivial⟩, by simp⟩

instance (w : World) (g : Nat) : Inhabited (El w g) := ⟨El.none w g⟩

theorem El.one {w : World} {g : Nat} (x : El w g) : x.v.oneCell' = true := by
  obtain ⟨a, cap, h, _⟩ := oI_own x.rep
  simp at h
  rw [h]; rfl

theorem El.form {w : World} {g : Nat} (x : El w g) : ∃ a cap, x.v = .slice a x.xs.length cap := by
  obtain ⟨a, cap, h, _⟩ := oI_own x.rep
  simp at h
  exact ⟨a, cap, h⟩

theorem El.lt {w : World} {g : Nat} (x : El w g) : ∀ k ∈ x.fp, k < w.heap.size := oI.lt x.rep

def fps {w : World} {g : Nat} (d : List (El w g)) : List Nat := (d.map El.fp).flatten

structure At (g c : Nat) (w' : World) (vs : List Value) : Prop where
  ex : ∃ cur, w'.heap[g]? = some (.cells cur 32 (0, 0)) ∧ cur.size = c ∧ cur.toList.take vs.length = vs
  le : vs.length ≤ c
  cap : c ≤ maxLen

def But (g : Nat) (w w' : World) : Prop := ∀ k, k ≠ g → k < w.heap.size → w'.heap[k]? = w.heap[k]?

theorem But.refl (g : Nat) (w : World) : But g w w := fun _ _ _ => rfl

theorem But.trans {g : Nat} {a b c : World} (h : But g a b) (k : But g b c) (hs : a.heap.size ≤ b.heap.size) : But g a c := fun i h1 h2 => (k i h1 (by omega)).trans (h i h1 h2)

theorem But.rep {w w' : World} {g : Nat} (h : But g w w') (x : El w g) : oI.rep w' [x.v] x.xs x.fp :=
  oI.frame x.rep fun k hk => h k (fun e => x.off (e ▸ hk)) (x.lt k hk)

theorem At.holds {w w' : World} {g c : Nat} {d : List (El w g)} (h : At g c w' (d.map El.v)) : Holds El.v w' g 0 d.toArray := by
  obtain ⟨cur, hb, hs, ht⟩ := h.ex
  have hle := h.le
  simp only [List.length_map] at ht hle
  intro j hj
  simp only [List.size_toArray] at hj
  have hv : cur[j]? = some ((d[j]'hj).v) := by
    have h1 : (cur.toList.take d.length)[j]? = some ((d[j]'hj).v) := by rw [ht]; simp [hj]
    rw [List.getElem?_take_of_lt hj] at h1
    simpa using h1
  have e : d.toArray[j]! = d[j]'hj := by simp [hj]
  rw [e]
  refine ⟨?_, ?_⟩
  · simp only [World.cell?, hb, Nat.zero_add]
    exact hv
  · simp only [World.frozen?, hb]
    simp

theorem rows_open {lo hi g n c : Nat} {w : World} {rows : List (List Int)} (h : Own oII lo hi w [.slice (some ⟨g, 0, .none⟩) n c] rows) :
    ∃ d : List (El w g), d.map El.xs = rows ∧ d.length = n ∧ At g c w (d.map El.v) ∧ g < w.heap.size ∧ (g :: fps d).Nodup ∧ ∀ k ∈ g :: fps d, lo ≤ k ∧ k < hi := by
  obtain ⟨fp, ⟨v, css, fs, hv, rfl, h1, h2⟩, hn, hb⟩ := h
  simp only [List.cons.injEq, and_true] at hv
  subst hv
  have hbl : bl (.slice (some ⟨g, 0, .none⟩) n c) = [g] := rfl
  rw [hbl] at hn hb
  have hgs := h1.lt g rfl
  obtain ⟨hlen, hor⟩ := h1
  rcases hor with ⟨h9, _⟩ | ⟨g', cap, cur, hv', _, hg, hnc, hcm, hcs, htk⟩
  · simp at h9
  simp at hv'
  obtain ⟨rfl, rfl, rfl⟩ := hv'
  have key : ∀ (css : List (List Value)) (xs : List (List Int)) (fs : List (List Nat)), oI.rows w css xs fs → g ∉ fs.flatten →
      ∃ d : List (El w g), d.map El.xs = xs ∧ d.map El.fp = fs ∧ d.map El.v = css.flatten := by
    intro css
    induction css with
    | nil =>
      intro xs fs h _
      match xs, fs, h with
      | [], [], _ => exact ⟨[], rfl, rfl, rfl⟩
    | cons c cs ih =>
      intro xs fs h hg
      match xs, fs, h with
      | x :: xs, f :: fs, h =>
        simp only [List.flatten_cons, List.mem_append, not_or] at hg
        obtain ⟨d, h1, h2, h3⟩ := ih xs fs h.2 hg.2
        obtain ⟨a, cap, rfl, _⟩ := oI_own h.1
        exact ⟨⟨_, x, f, h.1, hg.1⟩ :: d, by simp [h1], by simp [h2], by simp [h3]⟩
  obtain ⟨d, h1', h2', h3'⟩ := key css rows fs h2 (fun hm => (List.nodup_append.1 hn).2.2 g (by simp) g hm rfl)
  have hdl : d.length = rows.length := by rw [← h1']; simp
  refine ⟨d, h1', hdl, ⟨⟨cur, hg, by simpa [oI, O.slice] using hcs, ?_⟩, by simp [hdl]; exact hnc, hcm⟩, hgs.2, by unfold fps; rw [h2']; simpa using hn, by unfold fps; rw [h2']; simpa using hb⟩
  rw [h3'] 
  have e : css.flatten.length = rows.length * 1 := by simpa [oI, O.slice] using hlen
  rw [e]
  simpa [oI, O.slice] using htk

theorem rows_close {lo hi g c : Nat} {w w' : World} {d : List (El w g)} (ha : At g c w' (d.map El.v)) (hb : But g w w') (hn : (g :: fps d).Nodup) (hr : ∀ k ∈ g :: fps d, lo ≤ k ∧ k < hi) :
    Own oII lo hi w' [.slice (some ⟨g, 0, .none⟩) d.length c] (d.map El.xs) := by
  refine ⟨g :: fps d, ⟨_, d.map fun x => [x.v], d.map El.fp, rfl, rfl, ?_, ?_⟩, hn, hr⟩
  · obtain ⟨cur, h1, h2, h3⟩ := ha.ex
    have hle := ha.le
    simp only [List.length_map] at h3 hle
    have e : (d.map fun x => [x.v]).flatten = d.map El.v := by
      clear h3 ha hn hr hle
      induction d with
      | nil => rfl
      | cons x t ih => simp [ih]
    rw [e]
    refine ⟨by simp [oI, O.slice], .inr ⟨g, c, cur, by simp, Nat.zero_le _, h1, by simpa using hle, ha.cap, by simpa [oI, O.slice] using h2, by simpa [oI, O.slice] using h3⟩⟩
  · clear ha hn hr
    induction d with
    | nil => trivial
    | cons x t ih => exact ⟨hb.rep x, ih⟩

theorem At.put {w w1 : World} {g c : Nat} {d d' : List (El w g)} (h : At g c w1 (d.map El.v)) (hl : d'.length = d.length) : At g c (putRow El.v w1 g 0 d'.toArray) (d'.map El.v) := by
  obtain ⟨cur, hb, hs, ht⟩ := h.ex
  have hle := h.le
  simp only [List.length_map] at ht hle
  refine ⟨⟨putCells El.v 0 d'.toArray cur, ?_, by simp [putCells, hs], ?_⟩, by simp; omega, h.cap⟩
  · simp only [putRow, mapBlock, Array.getElem?_modify, if_true, hb, Option.map_some, onCells]
  · apply List.ext_getElem?
    intro j
    by_cases hj : j < d'.length
    · have hjc : j < cur.size := by omega
      rw [List.length_map, List.getElem?_take_of_lt hj]
      simp [putCells, Array.getElem?_mapIdx, hj, hjc]
    · rw [List.getElem?_eq_none (by simp; omega), List.getElem?_eq_none (by simp; omega)]

theorem But.put {w w1 : World} {g : Nat} {d' : List (El w g)} (h : But g w w1) : But g w (putRow El.v w1 g 0 d'.toArray) := fun k hk hs => by
  rw [← h k hk hs]
  simp only [putRow, mapBlock, Array.getElem?_modify]
  rw [if_neg (Ne.symm hk)]

theorem At.grow {g c : Nat} {w1 : World} {vs : List Value} (h : At g c w1 vs) (hg : g < w1.heap.size) (os : Array Obj) : At g c (grow w1 os) vs := by
  obtain ⟨cur, hb, hs, ht⟩ := h.ex
  exact ⟨⟨cur, by rw [heap_grow_old w1 os hg]; exact hb, hs, ht⟩, h.le, h.cap⟩

theorem But.grow {g : Nat} {w w1 : World} (h : But g w w1) (hs : w.heap.size ≤ w1.heap.size) (os : Array Obj) : But g w (grow w1 os) := fun k hk h2 => by
  rw [heap_grow_old w1 os (by omega)]; exact h k hk h2

theorem At.sort {w : World} {g c n : Nat} {d : List (El w g)} {d' : List (El w g)} (os : Array Obj) (h : At g c w (d.map El.v)) (hg : g < w.heap.size) (hl : d'.length = d.length) :
    At g c (Go.Proofs.sortWorld El.v w g 0 n d'.toArray os) (d'.map El.v) ∧ But g w (Go.Proofs.sortWorld El.v w g 0 n d'.toArray os) := by
  have h1 : At g c (Go.Sort.ahead w n) (d.map El.v) := ⟨h.ex, h.le, h.cap⟩
  exact ⟨(h1.put hl).grow (by rw [size_putRow]; exact hg) os, (But.put (w1 := Go.Sort.ahead w n) (But.refl g w)).grow (by rw [size_putRow]; exact Nat.le_refl _) os⟩

theorem fps_perm {w : World} {g : Nat} {d d' : List (El w g)} (h : d'.Perm d) : (fps d').Perm (fps d) := (h.map _).flatten

theorem fps_sub {w : World} {g : Nat} {d d' : List (El w g)} (h : d'.Sublist d) : (fps d').Sublist (fps d) := by
  induction h with
  | slnil => exact List.Sublist.refl _
  | cons x _ ih => exact ih.trans (List.sublist_append_right x.fp _)
  | cons_cons x _ ih => exact (List.Sublist.refl x.fp).append ih

def cfE {w : World} {g : Nat} (x y : El w g) : Int := cmpRows x.xs y.xs

theorem swoE (w : World) (g : Nat) : SWO (Go.Proofs.ltOf (cfE (w := w) (g := g))) where
  irrefl x := by simp [Go.Proofs.ltOf, cfE, cmpRows_self]
  trans x y z h1 h2 := decide_eq_true (cmpRows_lt_trans (of_decide_eq_true h1) (of_decide_eq_true h2))
  ntrans x y z h1 h2 := by
    refine decide_eq_false fun h3 => ?_
    have h1' := of_decide_eq_false h1
    have h2' := of_decide_eq_false h2
    simp only [cfE] at h1' h2' h3
    rcases Int.lt_trichotomy (cmpRows x.xs y.xs) 0 with h | h | h
    · exact h1' h
    · have := (cmpRows_zero _ _).1 h
      rw [this] at h3; exact h2' h3
    · have hyx := cmpRows_gt_iff.1 h
      exact h2' (cmpRows_lt_trans hyx h3)

theorem sorted_pair {w : World} {g : Nat} {d' : Array (El w g)} (h : SortedIn (Go.Proofs.ltOf cfE) 0 d'.size d') : (d'.toList.map El.xs).Pairwise (fun a b => ¬ cmpRows b a < 0) := by
  rw [List.pairwise_map, List.pairwise_iff_getElem]
  intro i j hi hj hij
  simp only [Array.length_toList] at hi hj
  have h1 := h i j (Nat.zero_le _) hij hj
  rw [getElem!_pos d' i hi, getElem!_pos d' j hj] at h1
  exact of_decide_eq_false h1

theorem permIn_all {w : World} {g : Nat} {d : List (El w g)} {d' : Array (El w g)} (h : PermIn 0 d.toArray.size d.toArray d') : d'.toList.Perm d ∧ d'.size = d.length := by
  obtain ⟨h1, _, h3⟩ := h
  simp only [List.size_toArray] at h1 h3
  refine ⟨?_, h1⟩
  have e1 : d'.extract 0 d.length = d' := by rw [← h1]; exact Array.extract_size
  have e2 : (d.toArray.extract 0 d.length).toList = d := by simp
  rw [e1, e2] at h3
  exact h3

end Go.Proofs.YtpgfkjcekhifiaaGreat
