/- Contracts: the laws' own helpers on slices of slices of ints. -/
import Derived.Test.YtigcagplbihenaaDoorShape
import Derived.Test.YtigcagplbihenaaDoorHelp
namespace Go.Proofs.YtigcagplbihenaaDoor
open Go.RowKit
set_option linter.unusedVariables false
set_option linter.unusedSimpArgs false

/-- Only these blocks may have turned; none has come. -/
structure Only (fp : List Nat) (w w' : World) : Prop where
  os : w'.os = w.os
  tape : w'.tape = w.tape
  output : w'.output = w.output
  size : w'.heap.size = w.heap.size
  block : ∀ k, k ∉ fp → w'.heap[k]? = w.heap[k]?
theorem Only.refl (fp : List Nat) (w : World) : Only fp w w := ⟨rfl, rfl, rfl, rfl, fun _ _ => rfl⟩
theorem Only.trans {fp : List Nat} {a b c : World} (h : Only fp a b) (k : Only fp b c) : Only fp a c :=
  ⟨k.os.trans h.os, k.tape.trans h.tape, k.output.trans h.output, k.size.trans h.size, fun i hi => (k.block i hi).trans (h.block i hi)⟩
theorem Only.mono {fp fq : List Nat} {w w' : World} (h : Only fp w w') (hs : ∀ k ∈ fp, k ∈ fq) : Only fq w w' :=
  ⟨h.os, h.tape, h.output, h.size, fun k hk => h.block k (fun hx => hk (hs k hx))⟩
theorem Only.kept {fp : List Nat} {lo hi : Nat} {w w' : World} (h : Only fp w w') (hk : ∀ k ∈ fp, lo ≤ k ∧ k < hi) : Kept lo hi w w' :=
  ⟨h.os, h.tape, h.output, h.size, fun k hx => h.block k (fun hm => by have := hk k hm; omega)⟩
theorem Only.drew {fp : List Nat} {w w' w'' : World} (h : Only fp w w') (hd : Drew w' w'') : Only fp w w'' := by
  obtain ⟨m, rfl⟩ := hd
  exact ⟨h.os, h.tape, h.output, h.size, h.block⟩

/-- Of what was there at most blocks from lo up to hi have turned; others may have come. -/
structure Turn (lo hi : Nat) (w w' : World) : Prop where
  os : w'.os = w.os
  tape : w'.tape = w.tape
  output : w'.output = w.output
  size : w.heap.size ≤ w'.heap.size
  block : ∀ k, k < w.heap.size → (k < lo ∨ hi ≤ k) → w'.heap[k]? = w.heap[k]?
theorem Kept.turn {lo hi : Nat} {w w' : World} (h : Kept lo hi w w') : Turn lo hi w w' := ⟨h.os, h.tape, h.output, by rw [h.size]; exact Nat.le_refl _, fun k _ hk => h.block k hk⟩
theorem turn_refl (lo hi : Nat) (w : World) : Turn lo hi w w := (Kept.refl lo hi w).turn
theorem Turn.trans {lo hi : Nat} {a b c : World} (h : Turn lo hi a b) (k : Turn lo hi b c) : Turn lo hi a c :=
  ⟨k.os.trans h.os, k.tape.trans h.tape, k.output.trans h.output, Nat.le_trans h.size k.size, fun i hi hk => (k.block i (Nat.lt_of_lt_of_le hi h.size) hk).trans (h.block i hi hk)⟩
theorem turn_below {lo hi C : Nat} {w w' : World} (h : Below C w w') (hC : w.heap.size ≤ C) : Turn lo hi w w' := ⟨h.os, h.tape, h.output, h.size, fun k hk _ => h.block k (by omega)⟩
theorem Turn.mono {lo hi lo' hi' : Nat} {w w' : World} (h : Turn lo hi w w') (h1 : lo' ≤ lo) (h2 : hi ≤ hi') : Turn lo' hi' w w' := ⟨h.os, h.tape, h.output, h.size, fun k hk hx => h.block k hk (by omega)⟩
theorem Turn.below {lo hi : Nat} {w w' : World} (h : Turn lo hi w w') (hl : lo ≤ w.heap.size) : Below lo w w' := ⟨h.os, h.tape, h.output, h.size, fun k hk => h.block k (by omega) (.inl hk)⟩
theorem Turn.cell {lo hi : Nat} {w w' : World} (h : Turn lo hi w w') {p : Addr} (h1 : p.block < w.heap.size) (h2 : p.block < lo ∨ hi ≤ p.block) : w'.cell? p = w.cell? p := World.cell?_of_block (h.block _ h1 h2)
theorem Own.turn {α : Type} {o : OS α} {lo hi lo' hi' : Nat} {w w' : World} {cs : List Value} {x : α} (h : Own o lo hi w cs x) (hk : Turn lo' hi' w w') (hd : hi ≤ lo' ∨ hi' ≤ lo) : Own o lo hi w' cs x := by
  obtain ⟨fp, h1, h2, h3⟩ := h
  exact ⟨fp, o.frame h1 (fun k hk' => hk.block k (o.lt h1 k hk') (by have := h3 k hk'; omega)), h2, h3⟩

/-- A slice of ints of one's own, as a shape. -/
def oI : OS (List Int) := O.slice 3 O.int
def oII : OS (List (List Int)) := O.slice 33 oI
def rI : RS (List Int) := R.slice R.int
def rII : RS (List (List Int)) := R.slice rI
theorem reads_I : Reads oI rI := Reads.slice _ Reads.int
theorem reads_II : Reads oII rII := Reads.slice _ reads_I

theorem rows_ints {w : World} : ∀ {css : List (List Value)} {xs : List Int} {fps : List (List Nat)}, O.int.rows w css xs fps → css.flatten = xs.map (Value.int .i64) ∧ AllI64 xs ∧ fps.flatten = []
  | [], [], [], _ => ⟨rfl, (by intro x hx; cases hx), rfl⟩
  | c :: cs, x :: xs, f :: fs, h => by
    obtain ⟨⟨rfl, hx, rfl⟩, h2⟩ := h
    obtain ⟨h3, h4, h5⟩ := rows_ints h2
    refine ⟨by simp [h3], ?_, by simp [h5]⟩
    intro y hy
    rcases List.mem_cons.1 hy with rfl | hy
    · exact hx
    · exact h4 y hy
theorem ints_rows {w : World} : ∀ {xs : List Int}, AllI64 xs → O.int.rows w (xs.map fun x => [Value.int .i64 x]) xs (xs.map fun _ => [])
  | [], _ => trivial
  | x :: xs, h => ⟨⟨rfl, h x (List.mem_cons_self ..), rfl⟩, ints_rows (fun y hy => h y (List.mem_cons_of_mem _ hy))⟩
theorem map_flatten_one (xs : List Int) : (xs.map fun x => [Value.int .i64 x]).flatten = xs.map (Value.int .i64) := by
  induction xs with
  | nil => rfl
  | cons x xs ih => simp [ih]
theorem map_flatten_nil (xs : List Int) : (xs.map fun _ => ([] : List Nat)).flatten = [] := by
  induction xs with
  | nil => rfl
  | cons x xs ih => simp
theorem oI_own {w : World} {cs : List Value} {xs : List Int} {fp : List Nat} (h : oI.rep w cs xs fp) : ∃ a cap, cs = [.slice a xs.length cap] ∧ OwnInts 0 w (.slice a xs.length cap) xs.length xs ∧ fp = bl (.slice a xs.length cap) := by
  obtain ⟨v, css, fps, rfl, rfl, h1, h2⟩ := h
  obtain ⟨h3, h4, h5⟩ := rows_ints h2
  obtain ⟨a, cap, rfl, _⟩ := own_form h1
  refine ⟨a, cap, rfl, ⟨rfl, ?_, h4⟩, by rw [h5, List.append_nil]⟩
  rw [← h3]; exact h1
theorem own_oI {B n : Nat} {w : World} {v : Value} {xs : List Int} (h : OwnInts B w v n xs) : oI.rep w [v] xs (bl v) := by
  have hl := h.len
  subst hl
  refine ⟨v, _, _, rfl, ?_, ?_, ints_rows h.rng⟩
  · rw [map_flatten_nil, List.append_nil]
  · rw [map_flatten_one]; exact own_base h.row (Nat.zero_le _)
/-- What a call makes, as a shape between two heaps' sizes. -/
theorem OwnInts.own {B n : Nat} {w : World} {v : Value} {xs : List Int} (h : OwnInts B w v n xs) : Own oI B w.heap.size w [v] xs := by
  refine ⟨bl v, own_oI h, ?_, fun k hk => ?_⟩
  · unfold bl; cases v.ownBlock <;> simp
  · exact h.row.lt k (by simpa [bl] using hk)

/-- One row of an owned slice turned: the whole. -/
theorem rows_turn {α : Type} (o : OS α) {w w' : World} : ∀ {css : List (List Value)} {xs : List α} {fps : List (List Nat)} (h : o.rows w css xs fps) (i : Nat) (c : List Value) (x' : α) (f : List Nat),
    css[i]? = some c → fps[i]? = some f → fps.flatten.Nodup → o.rep w' c x' f → (∀ k, k ∉ f → w'.heap[k]? = w.heap[k]?) → o.rows w' css (xs.set i x') fps
  | [], [], [], _, i, _, x, _, h1, _, _, _, _ => by simp at h1
  | c :: cs, y :: xs, f :: fs, h, 0, _, x, _, h1, h2, hn, hr, hk => by
    simp at h1 h2
    subst h1 h2
    refine ⟨hr, o.rows_frame h.2 (fun k hm => hk k (fun hf => ?_))⟩
    simp only [List.flatten_cons] at hn
    exact (List.nodup_append.1 hn).2.2 k hf k hm rfl
  | c :: cs, y :: xs, f :: fs, h, i + 1, c', x, f', h1, h2, hn, hr, hk => by
    simp only [List.getElem?_cons_succ] at h1 h2
    simp only [List.flatten_cons] at hn
    have hn' := List.nodup_append.1 hn
    refine ⟨o.frame h.1 (fun k hm => hk k (fun hf => ?_)), rows_turn o h.2 i c' x f' h1 h2 hn'.2.1 hr hk⟩
    exact hn'.2.2 k hm k (List.mem_flatten.2 ⟨f', List.mem_of_getElem? h2, hf⟩) rfl

/-- One element of an owned slice: its cells, its blocks; and what follows if it alone is turned. -/
theorem slice_elem {α : Type} {t : TypeId} {o : OS α} {w : World} {a : Option Addr} {n cap : Nat} {xs : List α} {fp : List Nat} (h : (O.slice t o).rep w [.slice a n cap] xs fp) (hn : fp.Nodup) {i : Nat} {x : α} (hx : xs[i]? = some x) :
    ∃ g c f, a = some ⟨g, 0, none⟩ ∧ o.rep w c x f ∧ f.Nodup ∧ (∀ k ∈ f, k ∈ fp) ∧ (∀ j u, c[j]? = some u → w.cell? ⟨g, i * o.size + j, none⟩ = some u) ∧
      ∀ w' x', o.rep w' c x' f → Only f w w' → (O.slice t o).rep w' [.slice a n cap] (xs.set i x') fp := by
  obtain ⟨v, css, fps, hv, rfl, h1, h2⟩ := h
  simp at hv
  subst hv
  obtain ⟨c, f, hc, hf, hr⟩ := o.rows_get h2 i x hx
  obtain ⟨g, ha⟩ : ∃ g, a = some ⟨g, 0, none⟩ := by
    rcases h1.2 with ⟨hv, h0⟩ | ⟨g, c, cur, hv, _⟩
    · have := (List.getElem?_eq_some_iff.1 hx).1; omega
    · simp at hv; exact ⟨g, hv.1⟩
  have hnl := List.nodup_append.1 hn
  have hmem : ∀ k ∈ f, k ∈ fps.flatten := fun k hk => List.mem_flatten.2 ⟨f, List.mem_of_getElem? hf, hk⟩
  have hsub : f.Sublist fps.flatten := List.sublist_flatten_of_mem (List.mem_of_getElem? hf)
  refine ⟨g, c, f, ha, hr, hsub.nodup hnl.2.1, fun k hk => List.mem_append_right _ (hmem k hk), fun j u hu => ?_, ?_⟩
  · have hlen : n = xs.length := by
      obtain ⟨a', cap', hv, _⟩ := own_form h1
      simp at hv
      exact hv.2.1
    subst hlen
    obtain ⟨g', ha', hc'⟩ := own_cell h1 _ _ (flatten_get o h2 i j c u hc hu)
    rw [ha] at ha'
    simp at ha'
    subst ha'
    exact hc'
  · intro w' x' hr' hk
    refine ⟨_, css, fps, rfl, rfl, ?_, rows_turn o h2 i c x' f hc hf hnl.2.1 hr' hk.block⟩
    rw [List.length_set]
    exact own_frame h1 (fun k hb => hk.block k (fun hm => hnl.2.2 k hb k (hmem k hm) rfl))

set_option maxHeartbeats 400000 in
theorem markI (a : Option Addr) (n cap : Nat) (xs : List Int) (fp : List Nat) (k : Int) (w : World) (h : oI.rep w [.slice a n cap] xs fp)
    (k0 : 0 ≤ k) (k1 : k ≤ 1000000000000) (hsm : n ≤ 1000000000000) :
    Calls Tryd.prog 72 #[.slice a n cap, .int .i64 k] w fun e w' => e = .returned (.int .i64 (k + n)) ∧ oI.rep w' [.slice a n cap] (marks k n) fp ∧ Only fp w w' := by
  obtain ⟨a', cap', hv, ho, rfl⟩ := oI_own h
  simp at hv
  obtain ⟨rfl, rfl, rfl⟩ := hv
  cases a with
  | none =>
    refine (markIntS_any 0 0 _ _ _ _ _ _ ho (by simp) k0 k1 hsm).mono fun e w' ⟨he, h1, h2⟩ => ⟨he, own_oI h1, ?_⟩
    exact ⟨h2.os, h2.tape, h2.output, h2.size, fun j _ => h2.block j (.inr (Nat.zero_le _))⟩
  | some x =>
    have ho' : OwnInts x.block w (.slice (some x) xs.length cap) xs.length xs := by
      refine ⟨ho.len, ⟨ho.row.1, ?_⟩, ho.rng⟩
      rcases ho.row.2 with h2 | ⟨g, c, cur, hv, _, r⟩
      · exact .inl h2
      · simp at hv
        refine .inr ⟨g, c, cur, by simp [hv], ?_, r⟩
        rw [hv.1]
        exact Nat.le_refl _
    refine (markIntS_any x.block (x.block + 1) _ _ _ _ _ _ ho' (by simp) k0 k1 hsm).mono fun e w' ⟨he, h1, h2⟩ => ⟨he, own_oI h1, ?_⟩
    exact ⟨h2.os, h2.tape, h2.output, h2.size, fun j hj => h2.block j (by simp [bl, Value.ownBlock] at hj; omega)⟩

theorem take_snoc' {α : Type} (xs : List α) (k : Nat) (x : α) (h : xs[k]? = some x) : xs.take (k + 1) = xs.take k ++ [x] := by
  rw [List.take_add_one, h]; rfl

/-- How many ints lie in rows. -/
def cntSS (xss : List (List Int)) : Nat := (xss.map List.length).sum
/-- Rows with marks in the place of their ints. -/
def mkSS : Int → List (List Int) → List (List Int)
  | _, [] => []
  | k, r :: t => marks k r.length :: mkSS (k + r.length) t
theorem mkSS_len : ∀ (k : Int) (xss : List (List Int)), (mkSS k xss).length = xss.length
  | _, [] => rfl
  | k, r :: t => by simp [mkSS, mkSS_len]
theorem mkSS_cnt : ∀ (k : Int) (xss : List (List Int)), cntSS (mkSS k xss) = cntSS xss
  | _, [] => rfl
  | k, r :: t => by have := mkSS_cnt (k + r.length) t; simp only [cntSS] at this; simp [cntSS, mkSS, marks_length, this]
theorem mkSS_get : ∀ (k : Int) (xss : List (List Int)) (j : Nat) (r : List Int), xss[j]? = some r → (mkSS k xss)[j]? = some (marks (k + cntSS (xss.take j)) r.length)
  | k, [], j, r, h => by simp at h
  | k, x :: t, 0, r, h => by simp at h; subst h; simp [mkSS, cntSS]
  | k, x :: t, j + 1, r, h => by
    have := mkSS_get (k + x.length) t j r (by simpa using h)
    simp only [mkSS, List.getElem?_cons_succ, this, List.take_succ_cons]
    congr 2
    simp [cntSS]; omega
theorem cntSS_snoc (xss : List (List Int)) (j : Nat) (r : List Int) (h : xss[j]? = some r) : cntSS (xss.take (j + 1)) = cntSS (xss.take j) + r.length := by
  rw [take_snoc' _ _ _ h]; simp [cntSS]
theorem cntSS_take_le (xss : List (List Int)) (j : Nat) : cntSS (xss.take j) ≤ cntSS xss := by
  have e : cntSS xss = cntSS (xss.take j) + cntSS (xss.drop j) := by
    have e2 : cntSS (xss.take j ++ xss.drop j) = cntSS (xss.take j) + cntSS (xss.drop j) := by simp only [cntSS, List.map_append, List.sum_append]
    rwa [List.take_append_drop] at e2
  omega
/-- The first j rows are marked. -/
def mkTo (k : Int) (xss : List (List Int)) (j : Nat) : List (List Int) := (mkSS k xss).take j ++ xss.drop j
theorem mkTo_get (k : Int) (xss : List (List Int)) (j : Nat) (r : List Int) (h : xss[j]? = some r) : (mkTo k xss j)[j]? = some r := by
  have hj := (List.getElem?_eq_some_iff.1 h).1
  unfold mkTo
  rw [List.getElem?_append_right (by simp [mkSS_len]; omega), List.getElem?_drop]
  simp only [List.length_take, mkSS_len]
  rw [show min j xss.length = j by omega, show j + (j - j) = j by omega]
  exact h
theorem mkTo_step (k : Int) (xss : List (List Int)) (j : Nat) (r : List Int) (h : xss[j]? = some r) : (mkTo k xss j).set j (marks (k + cntSS (xss.take j)) r.length) = mkTo k xss (j + 1) := by
  have hj := (List.getElem?_eq_some_iff.1 h).1
  unfold mkTo
  rw [take_snoc' _ _ _ (mkSS_get k xss j r h), List.set_append_right _ _ (by simp [mkSS_len]; omega)]
  have e : xss.drop j = r :: xss.drop (j + 1) := by
    rw [List.drop_eq_getElem_cons hj]; congr 1; exact (List.getElem?_eq_some_iff.1 h).2
  rw [e]
  simp only [List.length_take, mkSS_len]
  rw [show j - min j xss.length = 0 by omega]
  simp
theorem mkTo_all (k : Int) (xss : List (List Int)) : mkTo k xss xss.length = mkSS k xss := by
  unfold mkTo
  rw [List.take_of_length_le (by rw [mkSS_len]; exact Nat.le_refl _)]
  simp

end Go.Proofs.YtigcagplbihenaaDoor
