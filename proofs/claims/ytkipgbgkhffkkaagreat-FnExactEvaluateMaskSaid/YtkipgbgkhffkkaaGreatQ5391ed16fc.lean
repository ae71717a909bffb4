/- Texts joined for one claim: Help2, Name, OpenS, UniI, OI, Part, Gen, Acc, KA, KII, KAn, KAs, KT, Mark, OA, OII, RegLast. -/
import Derived.Test.YtkipgbgkhffkkaaGreatQ10498dee13
import Derived.Deep.Strs
import Derived.Deep.RegionHeld3
import Derived.Orders

/- Contracts: the laws' own helpers on slices of slices of ints. -/
namespace Go.Proofs.YtkipgbgkhffkkaaGreat
open Go.RowKit
set_option linter.unusedVariables false
set_option linter.unusedSimpArgs false

/-- Only these blocks may have turned; none has come. -/
structure Only (fp : List Nat) (w w' : World) : Prop where
  os : w'.os = w.os
  tape : w'.tape = w.tape
  output : w'.output = w.output
  size : w'.heap.size = w.heap.size
  block : ∀ k, k ∉ fp → w'.heap[k]? = w.heap[k]?
theorem Only.refl (fp : List Nat) (w : World) : Only fp w w := ⟨rfl, rfl, rfl, rfl, fun _ _ => rfl⟩
theorem Only.trans {fp : List Nat} {a b c : World} (h : Only fp a b) (k : Only fp b c) : Only fp a c :=
  ⟨k.os.trans h.os, k.tape.trans h.tape, k.output.trans h.output, k.size.trans h.size, fun i hi => (k.block i hi).trans (h.block i hi)⟩
theorem Only.mono {fp fq : List Nat} {w w' : World} (h : Only fp w w') (hs : ∀ k ∈ fp, k ∈ fq) : Only fq w w' :=
  ⟨h.os, h.tape, h.output, h.size, fun k hk => h.block k (fun hx => hk (hs k hx))⟩
theorem Only.kept {fp : List Nat} {lo hi : Nat} {w w' : World} (h : Only fp w w') (hk : ∀ k ∈ fp, lo ≤ k ∧ k < hi) : Kept lo hi w w' :=
  ⟨h.os, h.tape, h.output, h.size, fun k hx => h.block k (fun hm => by have := hk k hm; omega)⟩
theorem Only.drew {fp : List Nat} {w w' w'' : World} (h : Only fp w w') (hd : Drew w' w'') : Only fp w w'' := by
  obtain ⟨m, rfl⟩ := hd
  exact ⟨h.os, h.tape, h.output, h.size, h.block⟩

/-- Of what was there at most blocks from lo up to hi have turned; others may have come. -/
structure Turn (lo hi : Nat) (w w' : World) : Prop where
  os : w'.os = w.os
  tape : w'.tape = w.tape
  output : w'.output = w.output
  size : w.heap.size ≤ w'.heap.size
  block : ∀ k, k < w.heap.size → (k < lo ∨ hi ≤ k) → w'.heap[k]? = w.heap[k]?
theorem Kept.turn {lo hi : Nat} {w w' : World} (h : Kept lo hi w w') : Turn lo hi w w' := ⟨h.os, h.tape, h.output, by rw [h.size]; exact Nat.le_refl _, fun k _ hk => h.block k hk⟩
theorem turn_refl (lo hi : Nat) (w : World) : Turn lo hi w w := (Kept.refl lo hi w).turn
theorem Turn.trans {lo hi : Nat} {a b c : World} (h : Turn lo hi a b) (k : Turn lo hi b c) : Turn lo hi a c :=
  ⟨k.os.trans h.os, k.tape.trans h.tape, k.output.trans h.output, Nat.le_trans h.size k.size, fun i hi hk => (k.block i (Nat.lt_of_lt_of_le hi h.size) hk).trans (h.block i hi hk)⟩
theorem turn_below {lo hi C : Nat} {w w' : World} (h : Below C w w') (hC : w.heap.size ≤ C) : Turn lo hi w w' := ⟨h.os, h.tape, h.output, h.size, fun k hk _ => h.block k (by omega)⟩
theorem Turn.mono {lo hi lo' hi' : Nat} {w w' : World} (h : Turn lo hi w w') (h1 : lo' ≤ lo) (h2 : hi ≤ hi') : Turn lo' hi' w w' := ⟨h.os, h.tape, h.output, h.size, fun k hk hx => h.block k hk (by omega)⟩
theorem Turn.below {lo hi : Nat} {w w' : World} (h : Turn lo hi w w') (hl : lo ≤ w.heap.size) : Below lo w w' := ⟨h.os, h.tape, h.output, h.size, fun k hk => h.block k (by omega) (.inl hk)⟩
theorem Turn.cell {lo hi : Nat} {w w' : World} (h : Turn lo hi w w') {p : Addr} (h1 : p.block < w.heap.size) (h2 : p.block < lo ∨ hi ≤ p.block) : w'.cell? p = w.cell? p := World.cell?_of_block (h.block _ h1 h2)
theorem Own.turn {α : Type} {o : OS α} {lo hi lo' hi' : Nat} {w w' : World} {cs : List Value} {x : α} (h : Own o lo hi w cs x) (hk : Turn lo' hi' w w') (hd : hi ≤ lo' ∨ hi' ≤ lo) : Own o lo hi w' cs x := by
  obtain ⟨fp, h1, h2, h3⟩ := h
  exact ⟨fp, o.frame h1 (fun k hk' => hk.block k (o.lt h1 k hk') (by have := h3 k hk'; omega)), h2, h3⟩

/-- A slice of ints of one's own, as a shape. -/
def oI : OS (List Int) := O.slice 3 O.int
def oII : OS (List (List Int)) := O.slice 30 oI
def rI : RS (List Int) := R.slice R.int
def rII : RS (List (List Int)) := R.slice rI
theorem reads_I : Reads oI rI := Reads.slice _ Reads.int
theorem reads_II : Reads oII rII := Reads.slice _ reads_I

theorem rows_ints {w : World} : ∀ {css : List (List Value)} {xs : List Int} {fps : List (List Nat)}, O.int.rows w css xs fps → css.flatten = xs.map (Value.int .i64) ∧ AllI64 xs ∧ fps.flatten = []
  | [], [], [], _ => ⟨rfl, (by intro x hx; cases hx), rfl⟩
  | c :: cs, x :: xs, f :: fs, h => by
    obtain ⟨⟨rfl, hx, rfl⟩, h2⟩ := h
    obtain ⟨h3, h4, h5⟩ := rows_ints h2
    refine ⟨by simp [h3], ?_, by simp [h5]⟩
    intro y hy
    rcases List.mem_cons.1 hy with rfl | hy
    · exact hx
    · exact h4 y hy
theorem ints_rows {w : World} : ∀ {xs : List Int}, AllI64 xs → O.int.rows w (xs.map fun x => [Value.int .i64 x]) xs (xs.map fun _ => [])
  | [], _ => trivial
  | x :: xs, h => ⟨⟨rfl, h x (List.mem_cons_self ..), rfl⟩, ints_rows (fun y hy => h y (List.mem_cons_of_mem _ hy))⟩
theorem map_flatten_one (xs : List Int) : (xs.map fun x => [Value.int .i64 x]).flatten = xs.map (Value.int .i64) := by
  induction xs with
  | nil => rfl
  | cons x xs ih => simp [ih]
theorem map_flatten_nil (xs : List Int) : (xs.map fun _ => ([] : List Nat)).flatten = [] := by
  induction xs with
  | nil => rfl
  | cons x xs ih => simp
theorem oI_own {w : World} {cs : List Value} {xs : List Int} {fp : List Nat} (h : oI.rep w cs xs fp) : ∃ a cap, cs = [.slice a xs.length cap] ∧ OwnInts 0 w (.slice a xs.length cap) xs.length xs ∧ fp = bl (.slice a xs.length cap) := by
  obtain ⟨v, css, fps, rfl, rfl, h1, h2⟩ := h
  obtain ⟨h3, h4, h5⟩ := rows_ints h2
  obtain ⟨a, cap, rfl, _⟩ := own_form h1
  refine ⟨a, cap, rfl, ⟨rfl, ?_, h4⟩, by rw [h5, List.append_nil]⟩
  rw [← h3]; exact h1
theorem own_oI {B n : Nat} {w : World} {v : Value} {xs : List Int} (h : OwnInts B w v n xs) : oI.rep w [v] xs (bl v) := by
  have hl := h.len
  subst hl
  refine ⟨v, _, _, rfl, ?_, ?_, ints_rows h.rng⟩
  · rw [map_flatten_nil, List.append_nil]
  · rw [map_flatten_one]; exact own_base h.row (Nat.zero_le _)
/-- What a call makes, as a shape between two heaps' sizes. -/
theorem OwnInts.own {B n : Nat} {w : World} {v : Value} {xs : List Int} (h : OwnInts B w v n xs) : Own oI B w.heap.size w [v] xs := by
  refine ⟨bl v, own_oI h, ?_, fun k hk => ?_⟩
  · unfold bl; cases v.ownBlock <;> simp
  · exact h.row.lt k (by simpa [bl] using hk)

/-- One row of an owned slice turned: the whole. -/
theorem rows_turn {α : Type} (o : OS α) {w w' : World} : ∀ {css : List (List Value)} {xs : List α} {fps : List (List Nat)} (h : o.rows w css xs fps) (i : Nat) (c : List Value) (x' : α) (f : List Nat),
    css[i]? = some c → fps[i]? = some f → fps.flatten.Nodup → o.rep w' c x' f → (∀ k, k ∉ f → w'.heap[k]? = w.heap[k]?) → o.rows w' css (xs.set i x') fps
  | [], [], [], _, i, _, x, _, h1, _, _, _, _ => by simp at h1
  | c :: cs, y :: xs, f :: fs, h, 0, _, x, _, h1, h2, hn, hr, hk => by
    simp at h1 h2
    subst h1 h2
    refine ⟨hr, o.rows_frame h.2 (fun k hm => hk k (fun hf => ?_))⟩
    simp only [List.flatten_cons] at hn
    exact (List.nodup_append.1 hn).2.2 k hf k hm rfl
  | c :: cs, y :: xs, f :: fs, h, i + 1, c', x, f', h1, h2, hn, hr, hk => by
    simp only [List.getElem?_cons_succ] at h1 h2
    simp only [List.flatten_cons] at hn
    have hn' := List.nodup_append.1 hn
    refine ⟨o.frame h.1 (fun k hm => hk k (fun hf => ?_)), rows_turn o h.2 i c' x f' h1 h2 hn'.2.1 hr hk⟩
    exact hn'.2.2 k hm k (List.mem_flatten.2 ⟨f', List.mem_of_getElem? h2, hf⟩) rfl

/-- One element of an owned slice: its cells, its blocks; and what follows if it alone is turned. -/
theorem slice_elem {α : Type} {t : TypeId} {o : OS α} {w : World} {a : Option Addr} {n cap : Nat} {xs : List α} {fp : List Nat} (h : (O.slice t o).rep w [.slice a n cap] xs fp) (hn : fp.Nodup) {i : Nat} {x : α} (hx : xs[i]? = some x) :
    ∃ g c f, a = some ⟨g, 0, none⟩ ∧ o.rep w c x f ∧ f.Nodup ∧ (∀ k ∈ f, k ∈ fp) ∧ (∀ j u, c[j]? = some u → w.cell? ⟨g, i * o.size + j, none⟩ = some u) ∧
      ∀ w' x', o.rep w' c x' f → Only f w w' → (O.slice t o).rep w' [.slice a n cap] (xs.set i x') fp := by
  obtain ⟨v, css, fps, hv, rfl, h1, h2⟩ := h
  simp at hv
  subst hv
  obtain ⟨c, f, hc, hf, hr⟩ := o.rows_get h2 i x hx
  obtain ⟨g, ha⟩ : ∃ g, a = some ⟨g, 0, none⟩ := by
    rcases h1.2 with ⟨hv, h0⟩ | ⟨g, c, cur, hv, _⟩
    · have := (List.getElem?_eq_some_iff.1 hx).1; omega
    · simp at hv; exact ⟨g, hv.1⟩
  have hnl := List.nodup_append.1 hn
  have hmem : ∀ k ∈ f, k ∈ fps.flatten := fun k hk => List.mem_flatten.2 ⟨f, List.mem_of_getElem? hf, hk⟩
  have hsub : f.Sublist fps.flatten := List.sublist_flatten_of_mem (List.mem_of_getElem? hf)
  refine ⟨g, c, f, ha, hr, hsub.nodup hnl.2.1, fun k hk => List.mem_append_right _ (hmem k hk), fun j u hu => ?_, ?_⟩
  · have hlen : n = xs.length := by
      obtain ⟨a', cap', hv, _⟩ := own_form h1
      simp at hv
      exact hv.2.1
    subst hlen
    obtain ⟨g', ha', hc'⟩ := own_cell h1 _ _ (flatten_get o h2 i j c u hc hu)
    rw [ha] at ha'
    simp at ha'
    subst ha'
    exact hc'
  · intro w' x' hr' hk
    refine ⟨_, css, fps, rfl, rfl, ?_, rows_turn o h2 i c x' f hc hf hnl.2.1 hr' hk.block⟩
    rw [List.length_set]
    exact own_frame h1 (fun k hb => hk.block k (fun hm => hnl.2.2 k hb k (hmem k hm) rfl))

set_option maxHeartbeats 400000 in
theorem markI (a : Option Addr) (n cap : Nat) (xs : List Int) (fp : List Nat) (k : Int) (w : World) (h : oI.rep w [.slice a n cap] xs fp)
    (k0 : 0 ≤ k) (k1 : k ≤ 1000000000000) (hsm : n ≤ 1000000000000) :
    Calls Tryz.prog 18 #[.slice a n cap, .int .i64 k] w fun e w' => e = .returned (.int .i64 (k + n)) ∧ oI.rep w' [.slice a n cap] (marks k n) fp ∧ Only fp w w' := by
  obtain ⟨a', cap', hv, ho, rfl⟩ := oI_own h
  simp at hv
  obtain ⟨rfl, rfl, rfl⟩ := hv
  cases a with
  | none =>
    refine (markIntS_any 0 0 _ _ _ _ _ _ ho (by simp) k0 k1 hsm).mono fun e w' ⟨he, h1, h2⟩ => ⟨he, own_oI h1, ?_⟩
    exact ⟨h2.os, h2.tape, h2.output, h2.size, fun j _ => h2.block j (.inr (Nat.zero_le _))⟩
  | some x =>
    have ho' : OwnInts x.block w (.slice (some x) xs.length cap) xs.length xs := by
      refine ⟨ho.len, ⟨ho.row.1, ?_⟩, ho.rng⟩
      rcases ho.row.2 with h2 | ⟨g, c, cur, hv, _, r⟩
      · exact .inl h2
      · simp at hv
        refine .inr ⟨g, c, cur, by simp [hv], ?_, r⟩
        rw [hv.1]
        exact Nat.le_refl _
    refine (markIntS_any x.block (x.block + 1) _ _ _ _ _ _ ho' (by simp) k0 k1 hsm).mono fun e w' ⟨he, h1, h2⟩ => ⟨he, own_oI h1, ?_⟩
    exact ⟨h2.os, h2.tape, h2.output, h2.size, fun j hj => h2.block j (by simp [bl, Value.ownBlock] at hj; omega)⟩

theorem take_snoc' {α : Type} (xs : List α) (k : Nat) (x : α) (h : xs[k]? = some x) : xs.take (k + 1) = xs.take k ++ [x] := by
  rw [List.take_add_one, h]; rfl

set_option maxHeartbeats 400000 in
theorem eqIntSS_any (a b : Option Addr) (n m cap cap' : Nat) (xs ys : List (List Int)) (w : World) (h : Sl rI w a n xs) (h' : Sl rI w b m ys) :
    Calls Tryz.prog 58 #[.slice a n cap, .slice b m cap'] w fun e w' => e = .returned (.bool (decide (xs = ys))) ∧ Drew w w' := by
  have hl := h.len
  have hl' := h'.len
  have hn := h.small
  have hn' := h'.small
  by_cases hnm : n = m
  · subst hnm
    go_enter Tryz.func58, Tryz.ntmps58
    go_wp2
    go_loopw [5] (fun k wr => ∃ j : Nat, j ≤ n ∧ k = .int .i64 j ∧ Hid (xs.take j = ys.take j) ∧ Drew w wr) (fun k _ => n - (intOf k).toNat)
    case atStart => exact ⟨0, Nat.zero_le _, rfl, rfl, Drew.refl _⟩
    case round =>
      obtain ⟨j, hj, rfl, hE, hdr⟩ := hrel
      replace h := h.drew hdr
      replace h' := h'.drew hdr
      by_cases hlt : j < n
      · obtain ⟨b1, o1, r1, m1, c1, x, rfl, hc, hx, hi, _⟩ := h.row hlt
        obtain ⟨b2, o2, r2, m2, c2, y, rfl, hc', hy, hi', _⟩ := h'.row hlt
        have hcall := fun q => eqIntS_any r1 r2 m1 m2 c1 c2 x y (wr.drewN q) (hi.drewN q) (hi'.drewN q)
        by_cases hxy : x = y
        · have HE := Lib.hid (show xs.take (j + 1) = ys.take (j + 1) by rw [take_snoc' xs j x hx.out, take_snoc' ys j y hy.out, hE.out, hxy])
          have ht : decide (x = y) = true := by simp [hxy]
          rw [ht] at hcall
          have HC := Lib.hid hcall
          clear h h' hl hl' hi hi' hxy ht hcall
          go_wp2
          go_quiet ((go_at_call 13; exact quiet_drew (HC.out _)))
          go_wp2
          go_roundw
          case rel => exact ⟨j + 1, by omega, by go_num, HE.out, hdr.step _⟩
          case measure => simp [intOf]; omega
        · have ht : decide (x = y) = false := by simp [hxy]
          rw [ht] at hcall
          have HE := Lib.hid (show decide (xs = ys) = false by
            simp only [decide_eq_false_iff_not]; intro e; subst e; exact hxy (Option.some.inj (hx.out.symm.trans hy.out)))
          have HC := Lib.hid hcall
          clear h h' hl hl' hi hi' hxy ht hcall
          go_wp2
          go_quiet ((go_at_call 13; exact quiet_drew (HC.out _)))
          go_wp2
          go_ret
          exact ⟨ret_bool HE.out.symm, hdr.step _⟩
      · have HE := Lib.hid (show decide (xs = ys) = true by
          have e := hE.out
          rw [List.take_of_length_le (by omega), List.take_of_length_le (by omega)] at e
          simp [e])
        clear h h' hl hl'
        go_wp2
        go_ret
        exact ⟨ret_bool HE.out.symm, hdr⟩
  · have HE := Lib.hid (show decide (xs = ys) = false by
      simp only [decide_eq_false_iff_not]; intro e; subst e; omega)
    have hne : ((n : Int) != (m : Int)) = true := by rw [bne_iff_ne]; omega
    clear hl hl' h h'
    go_enter Tryz.func58, Tryz.ntmps58
    go_wp2
    go_ret
    exact ⟨ret_bool HE.out.symm, Drew.refl _⟩

/-- How many ints lie in rows. -/
def cntSS (xss : List (List Int)) : Nat := (xss.map List.length).sum
/-- Rows with marks in the place of their ints. -/
def mkSS : Int → List (List Int) → List (List Int)
  | _, [] => []
  | k, r :: t => marks k r.length :: mkSS (k + r.length) t
theorem mkSS_len : ∀ (k : Int) (xss : List (List Int)), (mkSS k xss).length = xss.length
  | _, [] => rfl
  | k, r :: t => by simp [mkSS, mkSS_len]
theorem mkSS_cnt : ∀ (k : Int) (xss : List (List Int)), cntSS (mkSS k xss) = cntSS xss
  | _, [] => rfl
  | k, r :: t => by have := mkSS_cnt (k + r.length) t; simp only [cntSS] at this; simp [cntSS, mkSS, marks_length, this]
theorem mkSS_get : ∀ (k : Int) (xss : List (List Int)) (j : Nat) (r : List Int), xss[j]? = some r → (mkSS k xss)[j]? = some (marks (k + cntSS (xss.take j)) r.length)
  | k, [], j, r, h => by simp at h
  | k, x :: t, 0, r, h => by simp at h; subst h; simp [mkSS, cntSS]
  | k, x :: t, j + 1, r, h => by
    have := mkSS_get (k + x.length) t j r (by simpa using h)
    simp only [mkSS, List.getElem?_cons_succ, this, List.take_succ_cons]
    congr 2
    simp [cntSS]; omega
theorem cntSS_snoc (xss : List (List Int)) (j : Nat) (r : List Int) (h : xss[j]? = some r) : cntSS (xss.take (j + 1)) = cntSS (xss.take j) + r.length := by
  rw [take_snoc' _ _ _ h]; simp [cntSS]
theorem cntSS_take_le (xss : List (List Int)) (j : Nat) : cntSS (xss.take j) ≤ cntSS xss := by
  have e : cntSS xss = cntSS (xss.take j) + cntSS (xss.drop j) := by
    have e2 : cntSS (xss.take j ++ xss.drop j) = cntSS (xss.take j) + cntSS (xss.drop j) := by simp only [cntSS, List.map_append, List.sum_append]
    rwa [List.take_append_drop] at e2
  omega
/-- The first j rows are marked. -/
def mkTo (k : Int) (xss : List (List Int)) (j : Nat) : List (List Int) := (mkSS k xss).take j ++ xss.drop j
theorem mkTo_get (k : Int) (xss : List (List Int)) (j : Nat) (r : List Int) (h : xss[j]? = some r) : (mkTo k xss j)[j]? = some r := by
  have hj := (List.getElem?_eq_some_iff.1 h).1
  unfold mkTo
  rw [List.getElem?_append_right (by simp [mkSS_len]; omega), List.getElem?_drop]
  simp only [List.length_take, mkSS_len]
  rw [show min j xss.length = j by omega, show j + (j - j) = j by omega]
  exact h
theorem mkTo_step (k : Int) (xss : List (List Int)) (j : Nat) (r : List Int) (h : xss[j]? = some r) : (mkTo k xss j).set j (marks (k + cntSS (xss.take j)) r.length) = mkTo k xss (j + 1) := by
  have hj := (List.getElem?_eq_some_iff.1 h).1
  unfold mkTo
  rw [take_snoc' _ _ _ (mkSS_get k xss j r h), List.set_append_right _ _ (by simp [mkSS_len]; omega)]
  have e : xss.drop j = r :: xss.drop (j + 1) := by
    rw [List.drop_eq_getElem_cons hj]; congr 1; exact (List.getElem?_eq_some_iff.1 h).2
  rw [e]
  simp only [List.length_take, mkSS_len]
  rw [show j - min j xss.length = 0 by omega]
  simp
theorem mkTo_all (k : Int) (xss : List (List Int)) : mkTo k xss xss.length = mkSS k xss := by
  unfold mkTo
  rw [List.take_of_length_le (by rw [mkSS_len]; exact Nat.le_refl _)]
  simp

set_option maxHeartbeats 400000 in
theorem markII (a : Option Addr) (n cap : Nat) (xss : List (List Int)) (fp : List Nat) (k : Int) (w : World) (h : oII.rep w [.slice a n cap] xss fp) (hfp : fp.Nodup)
    (k0 : 0 ≤ k) (k1 : k + cntSS xss ≤ 1000000000000) (hsm : n ≤ 1000000000000) :
    Calls Tryz.prog 59 #[.slice a n cap, .int .i64 k] w fun e w' => e = .returned (.int .i64 (k + cntSS xss)) ∧ oII.rep w' [.slice a n cap] (mkSS k xss) fp ∧ Only fp w w' := by
  have hl : xss.length = n := by
    obtain ⟨v, css, fps, hv, _, h1, _⟩ := h
    simp at hv
    subst hv
    obtain ⟨_, _, hv, _⟩ := own_form h1
    simp at hv
    exact hv.2.1.symm
  go_enter Tryz.func59, Tryz.ntmps59
  go_wp2
  go_loopw [1, 5] (fun q i wr => ∃ j : Nat, j ≤ n ∧ i = .int .i64 j ∧ q = .int .i64 (k + cntSS (xss.take j)) ∧ Hid (oII.rep wr [.slice a n cap] (mkTo k xss j) fp) ∧ Only fp w wr)
    (fun _ i _ => n - (intOf i).toNat)
  case atStart => exact ⟨0, Nat.zero_le _, rfl, by simp [cntSS], Lib.hid (by simpa [mkTo] using h), Only.refl _ _⟩
  case round =>
    obtain ⟨j, hj, rfl, rfl, hown, hk⟩ := hrel
    clear h
    by_cases hlt : j < n
    · obtain ⟨r, hr⟩ : ∃ r, xss[j]? = some r := ⟨_, List.getElem?_eq_getElem (by omega)⟩
      obtain ⟨g, c, f, rfl, hrep, hfn, hfs, hcell, hset⟩ := slice_elem hown.out hfp (mkTo_get k xss j r hr)
      obtain ⟨ar, cr, rfl, _, _⟩ := oI_own hrep
      have hc := hcell 0 _ rfl
      simp only [show oI.size = 1 from rfl, Nat.mul_one, Nat.add_zero] at hc
      obtain ⟨q, hq⟩ : ∃ q : Nat, q = cntSS (xss.take j) := ⟨_, rfl⟩
      have hq2 := cntSS_snoc xss j r hr
      have hle := cntSS_take_le xss (j + 1)
      have hcall := markI ar r.length cr r f (k + q) wr hrep (by omega) (by omega) (by omega)
      have HQ := Lib.hid hq
      have HQ2 := Lib.hid hq2
      rw [← hq]
      have HC := Lib.hid hcall
      have HR := Lib.hid hr
      have hb1 : (q : Int) + r.length ≤ cntSS xss := by omega
      have HS := Lib.hid hset
      clear hcall hset hcell hrep hown hl hr hq hq2 hle
      go_wp2_with fail
      refine HC.out.mono ?_
      rintro e w' ⟨rfl, hrep', hk'⟩
      have HO : Hid (oII.rep w' [.slice (some ⟨g, 0, none⟩) n cap] (mkTo k xss (j + 1)) fp) := by
        have := HS.out w' _ hrep' hk'
        rw [HQ.out, mkTo_step k xss j r HR.out] at this
        exact this
      have hk2 := hk.trans (hk'.mono hfs)
      clear hrep' hk'
      go_wp2_with fail
      go_roundw
      case rel => exact ⟨j + 1, by omega, by go_num, by rw [HQ2.out, ← HQ.out]; go_num, HO, hk2⟩
      case measure => simp [intOf]; omega
    · obtain rfl : j = n := by omega
      have HO := hown.out
      rw [← hl, mkTo_all] at HO
      have HO' := Lib.hid HO
      have he : (xss.take j) = xss := List.take_of_length_le (by omega)
      rw [he]
      clear HO hown
      rw [hl] at HO'
      clear hl he
      go_wp2
      go_ret
      exact ⟨rfl, HO'.out, hk⟩

set_option maxHeartbeats 400000 in
theorem heldIntSS_any (a : Option Addr) (n cap : Nat) (xss : List (List Int)) (k : Int) (w : World) (h : Sl rI w a n (mkSS k xss)) (k0 : 0 ≤ k) (k1 : k + cntSS xss ≤ 1000000000000) (hsm : n ≤ 1000000000000) :
    Calls Tryz.prog 60 #[.slice a n cap, .int .i64 k] w fun e w' => e = .returned (.int .i64 (k + cntSS xss)) ∧ w = w' := by
  have hl := h.len
  rw [mkSS_len] at hl
  go_enter Tryz.func60, Tryz.ntmps60
  go_wp2
  go_loop [1, 5] (fun q i => ∃ j : Nat, j ≤ n ∧ i = .int .i64 j ∧ q = .int .i64 (k + cntSS (xss.take j))) (fun _ i => n - (intOf i).toNat)
  case atStart => exact ⟨0, Nat.zero_le _, rfl, by simp [cntSS]⟩
  case round =>
    obtain ⟨j, hj, rfl, rfl⟩ := hrel
    by_cases hlt : j < n
    · obtain ⟨r, hr⟩ : ∃ r, xss[j]? = some r := ⟨_, List.getElem?_eq_getElem (by omega)⟩
      obtain ⟨b, o, ar, m, cr, x, rfl, hc, hx, hi, hm⟩ := h.row hlt
      have hm2 := hx.out
      rw [mkSS_get k xss j r hr] at hm2
      simp at hm2
      subst hm2
      have hml := hi.len
      rw [marks_length] at hml
      subst hml
      obtain ⟨q, hq⟩ : ∃ q : Nat, q = cntSS (xss.take j) := ⟨_, rfl⟩
      rw [← hq] at hi
      have hq2 := cntSS_snoc xss j r hr
      have hle := cntSS_take_le xss (j + 1)
      have hcall := heldIntS_any ar r.length cr (k + q) w hi (by omega) (by omega) (by omega)
      have HQ := Lib.hid hq
      have HQ2 := Lib.hid hq2
      rw [← hq]
      have HC := Lib.hid hcall
      have hb1 : (q : Int) + r.length ≤ cntSS xss := by omega
      clear hcall hl hr hq hq2 hle h hi hx hm
      go_wp2_with fail
      refine HC.out.mono ?_
      rintro e w' ⟨rfl, rfl⟩
      go_wp2_with fail
      go_round
      case rel => exact ⟨j + 1, by omega, by go_num, by rw [HQ2.out, ← HQ.out]; go_num⟩
      case measure => simp [intOf]; omega
    · obtain rfl : j = n := by omega
      have he : (xss.take j) = xss := List.take_of_length_le (by omega)
      rw [he]
      clear h hl he
      go_wp2
      go_ret
      exact ⟨rfl, rfl⟩

end Go.Proofs.YtkipgbgkhffkkaaGreat

/- Contracts: names of one letter. -/
namespace Go.Proofs.YtkipgbgkhffkkaaGreat
open Go.RowKit
set_option linter.unusedVariables false
set_option linter.unusedSimpArgs false

/-- One letter from a to z. -/
def nameB (s : ByteArray) : Bool := decide (s.size = 1) && betw (s.data.toList.getD 0 0).toNat 97 122
theorem nameB_no {s : ByteArray} (h : s.size ≠ 1) : nameB s = false := by simp [nameB, h]
theorem nameB_one {c : UInt8} {s : ByteArray} (h : s = ⟨⟨[c]⟩⟩) : nameB s = betw c.toNat 97 122 := by subst h; simp [nameB, ByteArray.size]
theorem size_one {s : ByteArray} (h : s.size = 1) : ∃ c, s = ⟨⟨[c]⟩⟩ := by
  obtain ⟨⟨l⟩⟩ := s
  match l, h with
  | [c], _ => exact ⟨c, rfl⟩

theorem nameOk_any (s : ByteArray) (w : World) (hs : s.size ≤ 9223372036854775807) :
    Calls Tryz.prog 121 #[.string s] w fun e w' => e = .returned (.bool (nameB s)) ∧ w = w' := by
  by_cases h : s.size = 1
  · obtain ⟨c, rfl⟩ := size_one h
    have HE := Lib.hid (nameB_one (c := c) rfl)
    clear h
    go_enter Tryz.func121, Tryz.ntmps121
    go_wp2_with fail
    all_goals
      go_ret
      refine ⟨ret_bool (Eq.trans ?_ HE.out.symm), rfl⟩
      have e : ∀ h, ((⟨⟨[c]⟩⟩ : ByteArray)[0]'h) = c := fun _ => rfl
      simp only [e] at *
      clear HE
      first | (simp [betw]; done) | (simp [betw]; omega)
  · have HE := Lib.hid (nameB_no h)
    have h' : ((s.size : Int) == 1) = false := by rw [beq_eq_false_iff_ne]; omega
    clear h
    go_enter Tryz.func121, Tryz.ntmps121
    go_wp2_with fail
    go_ret
    exact ⟨ret_bool HE.out.symm, rfl⟩

theorem l4Name_any (s : ByteArray) (w : World) (hs : s.size ≤ 9223372036854775807) :
    Calls Tryz.prog 114 #[.string s] w fun e w' => e = .returned (.bool (nameB s)) ∧ w = w' := by
  by_cases h : s.size = 1
  · obtain ⟨c, rfl⟩ := size_one h
    have HE := Lib.hid (nameB_one (c := c) rfl)
    clear h
    go_enter Tryz.func114, Tryz.ntmps114
    go_wp2_with fail
    all_goals
      go_ret
      refine ⟨ret_bool (Eq.trans ?_ HE.out.symm), rfl⟩
      have e : ∀ h, ((⟨⟨[c]⟩⟩ : ByteArray)[0]'h) = c := fun _ => rfl
      simp only [e] at *
      clear HE
      first | (simp [betw]; done) | (simp [betw]; omega)
  · have HE := Lib.hid (nameB_no h)
    have h' : ((s.size : Int) == 1) = false := by rw [beq_eq_false_iff_ne]; omega
    clear h
    go_enter Tryz.func114, Tryz.ntmps114
    go_wp2_with fail
    go_ret
    exact ⟨ret_bool HE.out.symm, rfl⟩
end Go.Proofs.YtkipgbgkhffkkaaGreat

/- The form's own reading opened to shapes: ints, strings, slices of whatever, structs of one to four fields. -/
namespace Go.Proofs.YtkipgbgkhffkkaaGreat
open Go.ChangeShapes Go.WideShapes Go.ChangeAt Go.RowKit
set_option linter.unusedVariables false
set_option maxRecDepth 100000
set_option linter.unusedSimpArgs false

/-- Whatever the form reads at type T reads by the shape r. -/
def Opens {α : Type} (T : TypeId) (r : RS α) : Prop :=
  ∀ (H : Type) (enc : TypeId × Value → H) (W : World) (fuel : Nat) (cs : List Value) (x : DataW H × List MemPlace), DataW.trod enc Tryz.prog W 0 (fun _ => true) true fuel T cs = some x → ∃ y, r.rep W cs y

theorem opens_int : Opens 3 R.int := by
  intro H enc W fuel cs x h
  obtain ⟨n, h1, _, hw⟩ := DataW.trod_int Tryz.underlying3 h
  exact ⟨n, h1, wf_I64 hw⟩
theorem opens_slice {α : Type} {T E : TypeId} {r : RS α} (hT : Tryz.prog.underlying T = some (.slice E)) (hc : Tryz.prog.cellsOf E = r.size) (hpos : 0 < r.size) (hr : Opens E r) : Opens T (R.slice r) := by
  intro H enc W fuel cs x h
  rcases Go.Deep.open_slice hT h with ⟨rfl, _⟩ | ⟨a, len, cap, m, n, D, Pl, rfl, _, hl, hm, hmm, rfl, hx⟩
  · exact ⟨[], none, 0, 0, rfl, by omega, by omega, rfl, by omega, fun i x hx => by simp at hx⟩
  · simp at hmm
    subst hmm
    have hel : ∀ i, i < len → ∃ cs' y, W.cells? 0 (a.add (i * r.size)) r.size = some cs' ∧ r.rep W cs' y := fun i hi => by
      obtain ⟨cs', h1, h2⟩ := hx i (by omega)
      obtain ⟨y, hy⟩ := hr H enc W n cs' _ h2
      rw [hc] at h1
      exact ⟨cs', y, h1, hy⟩
    clear hx
    have hch : ∃ ys : List α, ys.length = len ∧ ∀ i y, ys[i]? = some y → ∃ cs', W.cells? 0 (a.add (i * r.size)) r.size = some cs' ∧ r.rep W cs' y := by
      clear hl h hm
      induction len with
      | zero => exact ⟨[], rfl, fun i y hy => by simp at hy⟩
      | succ k ih =>
        obtain ⟨ys, hys, hall⟩ := ih (fun i hi => hel i (by omega))
        obtain ⟨cs', y, h1, h2⟩ := hel k (by omega)
        refine ⟨ys ++ [y], by simp [hys], fun i z hz => ?_⟩
        by_cases hi : i < ys.length
        · rw [List.getElem?_append_left hi] at hz; exact hall i z hz
        · rw [List.getElem?_append_right (by omega)] at hz
          have : i - ys.length = 0 := by
            have := (List.getElem?_eq_some_iff.1 hz).1
            simp at this; omega
          rw [this] at hz
          simp at hz
          subst hz
          have : i = k := by omega
          subst this
          exact ⟨cs', h1, h2⟩
    obtain ⟨ys, hys, hall⟩ := hch
    refine ⟨ys, some a, len, m, rfl, hl, by unfold maxLen at hm; omega, hys, by unfold maxLen at hm; omega, fun i y hy => ?_⟩
    obtain ⟨cs', h1, h2⟩ := hall i y hy
    obtain ⟨_, hlen, hcell⟩ := World.cells?_some h1
    have ea : a = ⟨a.block, a.off, none⟩ := by
      have hl0 : 0 < ys.length := Nat.lt_of_le_of_lt (Nat.zero_le i) (List.getElem?_eq_some_iff.1 hy).1
      obtain ⟨c0, h3, _⟩ := hall 0 _ (List.getElem?_eq_getElem hl0)
      obtain ⟨_, hlen0, hcell0⟩ := World.cells?_some h3
      have h0 := hcell0 0 hpos
      rw [List.getElem?_eq_getElem (by omega)] at h0
      exact addr_none (by simpa [Addr.add] using h0)
    refine ⟨a.block, a.off, cs', congrArg some ea, h2, fun j u hu => ?_⟩
    have hj : j < r.size := by rw [← hlen]; exact (List.getElem?_eq_some_iff.1 hu).1
    have h4 := hcell j hj
    rw [hu, Go.Deep.add_add, ea] at h4
    rw [← h4]
    congr 1
    unfold Addr.add
    split
    · rename_i h; rw [h]; rfl
    · rfl

theorem opens_str {T : TypeId} (hT : Tryz.prog.underlying T = some .string) : Opens T R.str := by
  intro H enc W fuel cs x h
  obtain ⟨s, h1, _, hw⟩ := DataW.trod_string hT h
  exact ⟨s, h1, by unfold maxLen at hw; omega⟩
theorem opens_bool {T : TypeId} (hT : Tryz.prog.underlying T = some .bool) : Opens T R.bool := by
  intro H enc W fuel cs x h
  obtain ⟨b, h1, _⟩ := DataW.trod_bool hT h
  exact ⟨b, h1⟩

theorem take_drop_one {cs : List Value} {n : Nat} (h : n < cs.length) : (cs.drop n).take 1 = [cs[n]] := by
  rw [List.drop_eq_getElem_cons h]; rfl

/-- Structs whose fields are one cell each, in order. -/
theorem opens_struct1 {α : Type} {T : TypeId} {f0 : Field} {r0 : RS α} (hT : Tryz.prog.underlying T = some (.struct #[f0])) (hn : Tryz.prog.cellsOf T = 1) (o0 : f0.offset = 0) (s0 : Tryz.prog.cellsOf f0.type = 1) (h0 : Opens f0.type r0) : Opens T r0 := by
  intro H enc W fuel cs x h
  obtain ⟨y0, n, _, hl, k0⟩ := trod_struct1 hT h
  rw [hn] at hl
  rw [o0, s0] at k0
  match cs, hl with
  | [c0], _ => exact h0 H enc W n _ _ k0
theorem opens_struct2 {α β : Type} {T : TypeId} {f0 f1 : Field} {r0 : RS α} {r1 : RS β} (hT : Tryz.prog.underlying T = some (.struct #[f0, f1])) (hn : Tryz.prog.cellsOf T = 2) (o0 : f0.offset = 0) (o1 : f1.offset = 1)
    (s0 : Tryz.prog.cellsOf f0.type = 1) (s1 : Tryz.prog.cellsOf f1.type = 1) (h0 : Opens f0.type r0) (h1 : Opens f1.type r1) : Opens T (R.pair r0 r1) := by
  intro H enc W fuel cs x h
  obtain ⟨y0, y1, n, _, hl, k0, k1⟩ := trod_struct2 hT h
  rw [hn] at hl
  rw [o0, s0] at k0
  rw [o1, s1] at k1
  match cs, hl with
  | [c0, c1], _ =>
    obtain ⟨z0, q0⟩ := h0 H enc W n _ _ k0
    obtain ⟨z1, q1⟩ := h1 H enc W n _ _ k1
    exact ⟨(z0, z1), [c0], [c1], rfl, q0, q1⟩
theorem opens_struct3 {α β γ : Type} {T : TypeId} {f0 f1 f2 : Field} {r0 : RS α} {r1 : RS β} {r2 : RS γ} (hT : Tryz.prog.underlying T = some (.struct #[f0, f1, f2])) (hn : Tryz.prog.cellsOf T = 3) (o0 : f0.offset = 0) (o1 : f1.offset = 1) (o2 : f2.offset = 2)
    (s0 : Tryz.prog.cellsOf f0.type = 1) (s1 : Tryz.prog.cellsOf f1.type = 1) (s2 : Tryz.prog.cellsOf f2.type = 1) (h0 : Opens f0.type r0) (h1 : Opens f1.type r1) (h2 : Opens f2.type r2) : Opens T (R.pair r0 (R.pair r1 r2)) := by
  intro H enc W fuel cs x h
  obtain ⟨y0, y1, y2, n, _, hl, k0, k1, k2⟩ := Go.Deep.trod_struct3 hT h
  rw [hn] at hl
  rw [o0, s0] at k0
  rw [o1, s1] at k1
  rw [o2, s2] at k2
  match cs, hl with
  | [c0, c1, c2], _ =>
    obtain ⟨z0, q0⟩ := h0 H enc W n _ _ k0
    obtain ⟨z1, q1⟩ := h1 H enc W n _ _ k1
    obtain ⟨z2, q2⟩ := h2 H enc W n _ _ k2
    exact ⟨(z0, z1, z2), [c0], [c1, c2], rfl, q0, [c1], [c2], rfl, q1, q2⟩
theorem opens_struct4 {α β γ δ : Type} {T : TypeId} {f0 f1 f2 f3 : Field} {r0 : RS α} {r1 : RS β} {r2 : RS γ} {r3 : RS δ} (hT : Tryz.prog.underlying T = some (.struct #[f0, f1, f2, f3])) (hn : Tryz.prog.cellsOf T = 4)
    (o0 : f0.offset = 0) (o1 : f1.offset = 1) (o2 : f2.offset = 2) (o3 : f3.offset = 3) (s0 : Tryz.prog.cellsOf f0.type = 1) (s1 : Tryz.prog.cellsOf f1.type = 1) (s2 : Tryz.prog.cellsOf f2.type = 1) (s3 : Tryz.prog.cellsOf f3.type = 1)
    (h0 : Opens f0.type r0) (h1 : Opens f1.type r1) (h2 : Opens f2.type r2) (h3 : Opens f3.type r3) : Opens T (R.pair r0 (R.pair r1 (R.pair r2 r3))) := by
  intro H enc W fuel cs x h
  obtain ⟨y0, y1, y2, y3, n, _, hl, k0, k1, k2, k3⟩ := Go.Joins.trod_struct4 hT h
  rw [hn] at hl
  rw [o0, s0] at k0
  rw [o1, s1] at k1
  rw [o2, s2] at k2
  rw [o3, s3] at k3
  match cs, hl with
  | [c0, c1, c2, c3], _ =>
    obtain ⟨z0, q0⟩ := h0 H enc W n _ _ k0
    obtain ⟨z1, q1⟩ := h1 H enc W n _ _ k1
    obtain ⟨z2, q2⟩ := h2 H enc W n _ _ k2
    obtain ⟨z3, q3⟩ := h3 H enc W n _ _ k3
    exact ⟨(z0, z1, z2, z3), [c0], [c1, c2, c3], rfl, q0, [c1], [c2, c3], rfl, q1, [c2], [c3], rfl, q2, q3⟩

/-- A value of a struct type: its cells read by a shape. -/
def agg_in {α : Type} (r : RS α) (w : World) (v : Value) : Prop := ∃ cs x, v = .agg (List.toArray cs) ∧ r.rep w cs x
theorem open_agg_in {α : Type} {H : Type} {enc : TypeId × Value → H} {W : World} {d : DataW H} {ps : List MemPlace} {T : TypeId} {fs : Array Field} {r : RS α} (hT : Tryz.prog.underlying T = some (.struct fs)) (hr : Opens T r) {v : Value}
    (hv : Value.okWide Tryz.prog W .any 0 T v) (h : DataW.Trod enc Tryz.prog W 0 (fun _ => true) true T v d ps) : agg_in r W v := by
  obtain ⟨cs, rfl, _⟩ := okWide_struct hT hv
  obtain ⟨fuel, hf⟩ := h
  obtain ⟨y, hy⟩ := hr H enc W fuel _ _ hf
  exact ⟨cs.toList, y, by simp, hy⟩

end Go.Proofs.YtkipgbgkhffkkaaGreat

/- The laws' helpers on slices of ints, in the one form that all kinds of data share. -/
namespace Go.Proofs.YtkipgbgkhffkkaaGreat
open Go.RowKit
set_option linter.unusedVariables false
set_option linter.unusedSimpArgs false

theorem Own.rd {α : Type} {o : OS α} {r : RS α} (hr : Reads o r) {lo hi : Nat} {w : World} {cs : List Value} {x : α} (h : Own o lo hi w cs x) : r.rep w cs x := by
  obtain ⟨fp, h1, _⟩ := h
  exact hr.2 h1

/-- What is left of a bound behind k things, -1 if they are too many. -/
def szR (left : Int) (k : Nat) : Int := if (k : Int) ≤ left then left - k else -1
theorem szR_add {left : Int} {a b : Nat} (h : (a : Int) ≤ left) : szR left (a + b) = szR (left - a) b := by
  unfold szR
  by_cases hb : (b : Int) ≤ left - a
  · rw [if_pos (by omega), if_pos hb]; omega
  · rw [if_neg (by omega), if_neg hb]
theorem szR_no {left : Int} {a : Nat} (b : Nat) (h : ¬ (a : Int) ≤ left) : szR left (a + b) = -1 := by
  unfold szR; rw [if_neg (by omega)]
theorem szR_no0 {left : Int} {a : Nat} (h : ¬ (a : Int) ≤ left) : szR left a = -1 := by
  unfold szR; rw [if_neg h]
theorem szR_yes {left : Int} {a : Nat} (h : (a : Int) ≤ left) : szR left a = left - a := by
  unfold szR; rw [if_pos h]
/-- It is -1, or the bound holds. -/
theorem szR_cases (left : Int) (k : Nat) : szR left k = -1 ∧ ¬ (k : Int) ≤ left ∨ szR left k = left - k ∧ (k : Int) ≤ left := by
  unfold szR
  by_cases h : (k : Int) ≤ left
  · exact .inr ⟨if_pos h, h⟩
  · exact .inl ⟨if_neg h, h⟩

theorem rI_open {w : World} {v : Value} {xs : List Int} (h : rI.rep w [v] xs) : ∃ a cap, v = .slice a xs.length cap ∧ xs.length ≤ cap ∧ cap ≤ 9223372036854775807 ∧ Ints w a xs.length xs := by
  obtain ⟨a, n, cap, hv, h1, h2, hs⟩ := h
  simp at hv
  have := hs.len
  subst this
  exact ⟨a, cap, hv, h1, h2, hs.ints⟩
theorem rI_mk {w : World} {a : Option Addr} {n cap : Nat} {xs : List Int} (h : Ints w a n xs) (h1 : n ≤ cap) (h2 : cap ≤ 9223372036854775807) : rI.rep w [.slice a n cap] xs := ⟨a, n, cap, rfl, h1, h2, h.sl⟩

theorem rI_form {w : World} {cs : List Value} {xs : List Int} (h : rI.rep w cs xs) : ∃ b n c, cs = [.slice b n c] := by
  obtain ⟨a, n, cap, hv, _⟩ := h
  exact ⟨_, _, _, hv⟩
theorem oI_form1 {lo hi : Nat} {w : World} {v : Value} {xs : List Int} (h : Own oI lo hi w [v] xs) : ∃ b n c, v = .slice b n c := by
  obtain ⟨b, n, c, hv⟩ := rI_form (h.rd reads_I)
  simp at hv
  exact ⟨_, _, _, hv⟩
/-- A store below what is owned. -/
theorem Own.setOut {α : Type} {o : OS α} {lo hi : Nat} {w w' : World} {cs : List Value} {x : α} (h : Own o lo hi w cs x) {p : Addr} {u : Value} (hw : w' = w.setCell p u) (hp : p.block < lo) : Own o lo hi w' cs x := by
  obtain ⟨fp, h1, h2, h3⟩ := h
  exact ⟨fp, o.frame h1 (fun k hk => by rw [hw]; exact Below.heap_setCell _ _ _ _ (by have := h3 k hk; omega)), h2, h3⟩
theorem bytes_ne {s t : ByteArray} (h : s ≠ t) : (s.toList == t.toList) = false := by
  rw [beq_eq_false_iff_ne]
  intro e
  apply h
  rw [ByteArray.toList_eq, ByteArray.toList_eq] at e
  cases s; cases t
  simp at e
  simp [e]

def bulk_I (xs : List Int) : Nat := xs.length
def cnt_I (xs : List Int) : Nat := xs.length
theorem cnt_le_I (xs : List Int) : cnt_I xs ≤ 2 * bulk_I xs := by unfold cnt_I bulk_I; omega
def mk_I (k : Int) (xs : List Int) : List Int := marks k xs.length

theorem sz_I (v : Value) (xs : List Int) (left : Int) (w : World) (h : rI.rep w [v] xs) (h0 : 0 ≤ left) (h1 : left ≤ 1048576) :
    Calls Tryz.prog 117 #[v, .int .i64 left] w fun e w' => e = .returned (.int .i64 (szR left (bulk_I xs))) ∧ w = w' := by
  obtain ⟨a, cap, rfl, hn1, hn2, hi⟩ := rI_open h
  have hn := hi.small
  unfold bulk_I
  by_cases hl : (xs.length : Int) ≤ left
  · have HE := Lib.hid (szR_yes hl)
    go_enter Tryz.func117, Tryz.ntmps117
    go_wp2
    go_ret
    exact ⟨ret_int HE.out.symm, rfl⟩
  · have HE := Lib.hid (szR_no0 hl)
    go_enter Tryz.func117, Tryz.ntmps117
    go_wp2
    go_ret
    exact ⟨ret_int HE.out.symm, rfl⟩

theorem to_I (v : Value) (xs : List Int) (w : World) (h : rI.rep w [v] xs) (hn : bulk_I xs ≤ 1048576) :
    Calls Tryz.prog 120 #[v] w fun e w' => ∃ u, e = .returned u ∧ Own oI w.heap.size w'.heap.size w' [u] xs ∧ Below w.heap.size w w' := by
  obtain ⟨a, cap, rfl, hn1, hn2, hi⟩ := rI_open h
  unfold bulk_I at hn
  exact (toIntS_any a _ cap xs w hi (by omega)).mono fun e w' ⟨b, c, he, ho, hb⟩ => ⟨_, he, ho.own, hb⟩

theorem eq_I (u v : Value) (xs ys : List Int) (w : World) (h : rI.rep w [u] xs) (h' : rI.rep w [v] ys) :
    Calls Tryz.prog 13 #[u, v] w fun e w' => e = .returned (.bool (decide (xs = ys))) ∧ Drew w w' := by
  obtain ⟨a, cap, rfl, _, _, hi⟩ := rI_open h
  obtain ⟨a', cap', rfl, _, _, hi'⟩ := rI_open h'
  exact eqIntS_any _ _ _ _ _ _ _ _ _ hi hi'

theorem mark_I (u : Value) (xs : List Int) (k : Int) (lo hi : Nat) (w : World) (h : Own oI lo hi w [u] xs) (hh : hi ≤ w.heap.size) (k0 : 0 ≤ k) (k1 : k + cnt_I xs ≤ 1000000000) :
    Calls Tryz.prog 18 #[u, .int .i64 k] w fun e w' => e = .returned (.int .i64 (k + cnt_I xs)) ∧ Own oI lo hi w' [u] (mk_I k xs) ∧ Turn lo hi w w' := by
  obtain ⟨fp, h1, h2, h3⟩ := h
  obtain ⟨a, cap, hv, _, _⟩ := oI_own h1
  simp at hv
  subst hv
  unfold cnt_I at *
  exact (markI a _ cap xs fp k w h1 k0 (by omega) (by omega)).mono fun e w' ⟨he, h4, h5⟩ => ⟨he, ⟨fp, h4, h2, h3⟩, (h5.kept h3).turn⟩

theorem held_I (u : Value) (xs : List Int) (k : Int) (w : World) (h : rI.rep w [u] (mk_I k xs)) (k0 : 0 ≤ k) (k1 : k + cnt_I xs ≤ 1000000000) :
    Calls Tryz.prog 19 #[u, .int .i64 k] w fun e w' => e = .returned (.int .i64 (k + cnt_I xs)) ∧ w = w' := by
  obtain ⟨a, cap, rfl, _, _, hi⟩ := rI_open h
  unfold mk_I at hi ⊢
  unfold cnt_I at *
  rw [marks_length] at hi ⊢
  exact heldIntS_any _ _ _ _ _ hi k0 (by omega) (by omega)

end Go.Proofs.YtkipgbgkhffkkaaGreat

/- Slices of ints and strings opened. -/
namespace Go.Proofs.YtkipgbgkhffkkaaGreat
open Go.ChangeShapes Go.WideShapes Go.ChangeAt Go.RowKit
set_option linter.unusedVariables false
set_option maxRecDepth 100000

def kI_in (w : World) (v : Value) : Prop := ∃ a n cap xs, v = .slice a n cap ∧ (xs.length = n ∧ n ≤ 9223372036854775807) ∧ rI.rep w [.slice a n cap] xs
theorem opens_I : Opens 30 rI := opens_slice Tryz.underlying30 (by kernel_rfl) (by decide) opens_int
theorem open_kI_in {H : Type} {enc : TypeId × Value → H} {W : World} {d : DataW H} {ps : List MemPlace} {v : Value} (hv : Value.okWide Tryz.prog W .any 0 30 v) (h : DataW.Trod enc Tryz.prog W 0 (fun _ => true) true 30 v d ps) : kI_in W v := by
  obtain ⟨a, l, c, rfl⟩ := okWide_slice Tryz.underlying30 hv
  obtain ⟨fuel, hf⟩ := h
  obtain ⟨xs, hx⟩ := opens_I H enc W fuel _ _ hf
  have hx' : rI.rep W [.slice a l c] xs := by simpa [Value.cells] using hx
  obtain ⟨a', cap, hv2, _, _, hi⟩ := rI_open hx'
  simp at hv2
  obtain ⟨rfl, rfl, rfl⟩ := hv2
  exact ⟨_, _, _, xs, rfl, ⟨rfl, hi.small⟩, hx'⟩

theorem opens_str' : Opens 9 R.str := opens_str Tryz.underlying9

def str_in (_w : World) (v : Value) : Prop := ∃ s, v = .string s ∧ s.size ≤ 9223372036854775807
theorem open_str_in {H : Type} {enc : TypeId × Value → H} {W : World} {d : DataW H} {ps : List MemPlace} {v : Value} (hv : Value.okWide Tryz.prog W .any 0 9 v) (h : DataW.Trod enc Tryz.prog W 0 (fun _ => true) true 9 v d ps) : str_in W v := by
  obtain ⟨s, rfl⟩ := okWide_string Tryz.underlying9 hv
  obtain ⟨fuel, hf⟩ := h
  obtain ⟨s', h1, h2⟩ := opens_str' H enc W fuel _ _ hf
  simp [Value.cells] at h1
  subst h1
  exact ⟨_, rfl, h2⟩

end Go.Proofs.YtkipgbgkhffkkaaGreat

/- A slice that a call makes and fills element by element: what holds on the way. -/
namespace Go.Proofs.YtkipgbgkhffkkaaGreat
open Go.RowKit
set_option linter.unusedVariables false
set_option linter.unusedSimpArgs false

/-- Cells stored one behind the other. -/
def setCells (w : World) (g : Nat) : Nat → List Value → World
  | _, [] => w
  | i, c :: cs => setCells (w.setCell ⟨g, i, none⟩ c) g (i + 1) cs
theorem setCells_size (g : Nat) : ∀ (cs : List Value) (w : World) (i : Nat), (setCells w g i cs).heap.size = w.heap.size
  | [], _, _ => rfl
  | c :: cs, w, i => by rw [setCells, setCells_size g cs]; simp [World.setCell]
theorem setCells_other (g : Nat) : ∀ (cs : List Value) (w : World) (i k : Nat), k ≠ g → (setCells w g i cs).heap[k]? = w.heap[k]?
  | [], _, _, _, _ => rfl
  | c :: cs, w, i, k, h => by rw [setCells, setCells_other g cs _ _ _ h]; exact Below.heap_setCell _ _ _ _ h
theorem setCells_only (g : Nat) (cs : List Value) (w : World) (i : Nat) : Only [g] w (setCells w g i cs) := by
  have h : ∀ (cs : List Value) (w : World) (i : Nat), (setCells w g i cs).os = w.os ∧ (setCells w g i cs).tape = w.tape ∧ (setCells w g i cs).output = w.output := by
    intro cs
    induction cs with
    | nil => intro w i; exact ⟨rfl, rfl, rfl⟩
    | cons c cs ih => intro w i; exact ih (w.setCell ⟨g, i, none⟩ c) (i + 1)
  exact ⟨(h cs w i).1, (h cs w i).2.1, (h cs w i).2.2, setCells_size g cs w i, fun k hk => setCells_other g cs w i k (by simpa using hk)⟩
/-- The block behind stores. -/
theorem setCells_block (g E : Nat) : ∀ (cs : List Value) (w : World) (i : Nat) (A C M : List Value), w.heap[g]? = some (.cells (A ++ (M ++ C)).toArray E) → A.length = i → M.length = cs.length →
    (setCells w g i cs).heap[g]? = some (.cells (A ++ (cs ++ C)).toArray E)
  | [], w, i, A, C, M, h, _, hM => by
    have : M = [] := List.eq_nil_of_length_eq_zero (by simpa using hM)
    subst this
    exact h
  | c :: cs, w, i, A, C, M, h, hA, hM => by
    cases M with
    | nil => simp at hM
    | cons m M =>
      have h2 := heap_setCell_same w g i _ E c h
      have e : ((A ++ (m :: M ++ C)).toArray.setIfInBounds i c) = ((A ++ [c]) ++ (M ++ C)).toArray := by
        apply Array.ext'
        simp only [Array.toList_setIfInBounds]
        rw [List.set_append_right _ _ (by omega), show i - A.length = 0 by omega]
        simp
      rw [e] at h2
      have := setCells_block g E cs _ (i + 1) (A ++ [c]) C M h2 (by simp [hA]) (by simpa using hM)
      rw [setCells, this]
      simp

/-- The first k elements of the slice in block g are owned as xs has them; the rest is nought yet. -/
def Part {α : Type} (E : TypeId) (o : OS α) (z : List Value) (B : Nat) (w : World) (g n k : Nat) (xs : List α) : Prop :=
  ∃ css fps, w.heap[g]? = some (.cells (css.flatten ++ (List.replicate (n - k) z).flatten).toArray E) ∧ o.rows w css (xs.take k) fps ∧ (g :: fps.flatten).Nodup ∧ (∀ p ∈ fps.flatten, B ≤ p ∧ p < w.heap.size) ∧ B ≤ g ∧ g < w.heap.size

theorem Part.below {α : Type} {E : TypeId} {o : OS α} {z : List Value} {B C : Nat} {w w' : World} {g n k : Nat} {xs : List α} (h : Part E o z B w g n k xs) (hb : Below C w w') (hC : w.heap.size ≤ C) : Part E o z B w' g n k xs := by
  obtain ⟨css, fps, h1, h2, h3, h4, h5, h6⟩ := h
  exact ⟨css, fps, by rw [hb.block g (by omega)]; exact h1, o.rows_frame h2 (fun p hp => hb.block p (by have := h4 p hp; omega)), h3, fun p hp => by have := h4 p hp; have := hb.size; omega, h5, by have := hb.size; omega⟩
/-- The cells that stand for the next element are there and can be written. -/
theorem Part.cell {α : Type} {E : TypeId} {o : OS α} {z : List Value} {B : Nat} {w : World} {g n k : Nat} {xs : List α} (h : Part E o z B w g n k xs) (hz : z.length = o.size) (hk : k < n) (hx : k ≤ xs.length) (j : Nat) (hj : j < o.size) :
    (∃ u, w.cell? ⟨g, k * o.size + j, none⟩ = some u) ∧ w.frozen? ⟨g, k * o.size + j, none⟩ = false := by
  obtain ⟨css, fps, h1, h2, _⟩ := h
  have hl := (o.rows_len h2).2.2
  have hlen : css.flatten.length = k * o.size := by rw [hl, List.length_take, Nat.min_eq_left hx]
  constructor
  · have : k * o.size + j < (css.flatten ++ (List.replicate (n - k) z).flatten).length := by
      rw [List.length_append, hlen]
      have h3 : ((List.replicate (n - k) z).flatten).length = (n - k) * o.size := by simp [hz]
      rw [h3]
      have : o.size ≤ (n - k) * o.size := Nat.le_mul_of_pos_left _ (by omega)
      omega
    refine ⟨(css.flatten ++ (List.replicate (n - k) z).flatten)[k * o.size + j], ?_⟩
    simp only [World.cell?, h1]
    simp only [Option.isSome_none, Bool.false_eq_true, if_false]
    rw [List.getElem?_toArray, List.getElem?_eq_getElem this]
  · simp [World.frozen?, h1]
/-- The next element comes in. -/
theorem Part.step {α : Type} {E : TypeId} {o : OS α} {z : List Value} {B B1 B2 : Nat} {w : World} {g n k : Nat} {xs : List α} {cs : List Value} {x : α} (h : Part E o z B w g n k xs) (hz : z.length = o.size) (hk : k < n) (hx : xs[k]? = some x)
    (hy : Own o B1 B2 w cs x) (hB1 : g < B1)
    (hold : ∃ w0 : World, Part E o z B w0 g n k xs ∧ w0.heap.size ≤ B1 ∧ ∀ p, p < w0.heap.size → w.heap[p]? = w0.heap[p]?) (hB2 : B2 ≤ w.heap.size) (hB : B ≤ B1) :
    Part E o z B (setCells w g (k * o.size) cs) g n (k + 1) xs := by
  obtain ⟨w0, ⟨css, fps, h1, h2, h3, h4, h5, h6⟩, hs, hsame⟩ := hold
  obtain ⟨fy, hr, hn, hl⟩ := hy
  have h1' : w.heap[g]? = some (.cells (css.flatten ++ (List.replicate (n - k) z).flatten).toArray E) := by rw [hsame g h6]; exact h1
  have h2' := o.rows_frame h2 (fun p hp => hsame p (h4 p hp).2)
  have hlen : css.flatten.length = k * o.size := by
    rw [(o.rows_len h2).2.2]
    have := (List.getElem?_eq_some_iff.1 hx).1
    rw [List.length_take, Nat.min_eq_left (by omega)]
  have hcl := o.len hr
  have hO := setCells_only g cs w (k * o.size)
  have hfy : ∀ p ∈ fy, p ≠ g := fun p hp e => by have := hl p hp; omega
  have hfps : ∀ p ∈ fps.flatten, p ≠ g := fun p hp e => by subst e; exact (List.nodup_cons.1 h3).1 hp
  refine ⟨css ++ [cs], fps ++ [fy], ?_, ?_, ?_, ?_, h5, ?_⟩
  · have e : (List.replicate (n - k) z).flatten = z ++ (List.replicate (n - (k + 1)) z).flatten := by
      rw [show n - k = (n - (k + 1)) + 1 by omega, List.replicate_succ]; simp
    rw [e] at h1'
    have := setCells_block g E cs w (k * o.size) css.flatten _ z h1' hlen (by rw [hz, hcl])
    rw [this]
    simp
  · rw [take_snoc' xs k x hx]
    refine o.rows_snoc (o.frame hr (fun p hp => hO.block p (by simpa using hfy p hp))) (o.rows_frame h2' (fun p hp => hO.block p (by simpa using hfps p hp)))
  · rw [List.flatten_append]
    refine List.nodup_cons.2 ⟨fun hm => ?_, List.nodup_append.2 ⟨(List.nodup_cons.1 h3).2, by simpa using hn, fun p hp q hq e => ?_⟩⟩
    · rcases List.mem_append.1 hm with hm | hm
      · exact hfps g hm rfl
      · exact hfy g (by simpa using hm) rfl
    · subst e
      have := (h4 p hp).2
      have := hl p (by simpa using hq)
      omega
  · intro p hp
    rw [setCells_size]
    rw [List.flatten_append] at hp
    rcases List.mem_append.1 hp with hp | hp
    · exact ⟨(h4 p hp).1, o.rows_lt h2' p hp⟩
    · have := hl p (by simpa using hp); omega
  · rw [setCells_size]
    have h7 := (Array.getElem?_eq_some_iff.1 h1').1
    exact h7
theorem Part.done {α : Type} {E : TypeId} {o : OS α} {z : List Value} {B : Nat} {w : World} {g n : Nat} {xs : List α} (h : Part E o z B w g n n xs) (hn : xs.length = n) (hm : n ≤ 9223372036854775807) : Own (O.slice E o) B w.heap.size w [.slice (some ⟨g, 0, none⟩) n n] xs := by
  obtain ⟨css, fps, h1, h2, h3, h4, h5, h6⟩ := h
  rw [List.take_of_length_le (by omega)] at h2
  simp only [Nat.sub_self, List.replicate_zero, List.flatten_nil, List.append_nil] at h1
  have hl := (o.rows_len h2).2.2
  refine ⟨g :: fps.flatten, ⟨_, css, fps, rfl, by simp [bl, Value.ownBlock], ⟨by rw [hl], .inr ⟨g, n, css.flatten.toArray, by rw [hn], Nat.zero_le _, h1, by omega, by unfold maxLen; omega, by simp only [List.size_toArray]; rw [hl, hn], ?_⟩⟩, h2⟩, h3, ?_⟩
  · simp only []
    exact List.take_of_length_le (by rw [hl]; exact Nat.le_refl _)
  · intro p hp
    rcases List.mem_cons.1 hp with rfl | hp
    · exact ⟨h5, h6⟩
    · exact h4 p hp

theorem rep_flat {α : Type} (l : List α) (hl : 0 < l.length) : ∀ (n i : Nat), ((List.replicate n l).flatten)[i]? = if i < n * l.length then l[i % l.length]? else none
  | 0, i => by simp
  | n + 1, i => by
    rw [List.replicate_succ, List.flatten_cons]
    by_cases h : i < l.length
    · rw [List.getElem?_append_left h, Nat.mod_eq_of_lt h, if_pos]
      rw [Nat.add_mul]; omega
    · rw [List.getElem?_append_right (by omega), rep_flat l hl n (i - l.length), ← Nat.mod_eq_sub_mod (by omega)]
      by_cases h2 : i < (n + 1) * l.length
      · rw [if_pos h2, if_pos]; rw [Nat.add_mul] at h2; omega
      · rw [if_neg h2, if_neg]; rw [Nat.add_mul] at h2; omega
theorem made_flat (z : Array Value) (n : Nat) (hz : 0 < z.size) : (madeCells z (n * z.size)).toList = (List.replicate n z.toList).flatten := by
  apply List.ext_getElem?
  intro i
  rw [rep_flat z.toList (by simpa using hz) n i]
  simp only [madeCells, Array.toList_map, Array.toList_range, List.getElem?_map, Array.length_toList]
  by_cases h : i < n * z.size
  · rw [if_pos h, List.getElem?_range h]
    have hm : i % z.size < z.size := Nat.mod_lt _ hz
    simp [hm]
  · rw [if_neg h]
    simp; omega

/-- 'make([]T, n)': nothing of it is filled yet. -/
theorem wpList_mkS {α : Type} {T E size bytes : Nat} {z : Value} (hT : Tryz.prog.underlying T = some (.slice E)) (hE : (Tryz.prog.info? E).map (fun i => (i.zero, i.size, i.bytes)) = some (some z, size, bytes)) (hz : z.cells.size = size) (hpos : 0 < size) (hby : bytes ≤ 1000) (o' : OS α) (xs : List α)
    {W : World} {ops : Array Oper} {rest : List Oper} {o : Oper} {a : Act} {Q : Exit → Act → World → Prop} (l c : Operand) (n : Nat) (hn : n ≤ 100000000)
    (hgd : o.guard = none) (ho : o.op = Op.makeSlice T l c) (hl : a.eval l = .int .i64 n) (hc : a.eval c = .int .i64 n)
    (h : ∀ w', Part E o' z.cells.toList W.heap.size w' W.heap.size n 0 xs → Below W.heap.size W w' → W.heap.size < w'.heap.size → wpList Tryz.prog ops Q rest (a.put o.dst (.slice (some ⟨W.heap.size, 0, none⟩) n n)) w') :
    wpList Tryz.prog ops Q (o :: rest) a W := by
  obtain ⟨i, hi, hz0, hz1, hz2⟩ := info_parts hE
  have hb2 : i.bytes * n ≤ 281474976710656 := by
    rw [hz2]
    exact Nat.le_trans (Nat.mul_le_mul hby hn) (by decide)
  refine wpList_make_full W hgd l c T ho W.heap.size E i z size hT hi hz0 hz1 .i64 .i64 n n n hl hc rfl rfl hb2 (by unfold maxLen; omega) (Nat.le_refl _) ?_
  intro w1 hown hgrow
  have hb1 : Below W.heap.size W w1 := (Below.refl _ _).grown hgrow (Nat.le_refl _) (by intro k hk; cases hk)
  have hlt := (hown.lt W.heap.size rfl).2
  refine h w1 ?_ hb1 hlt
  rcases hown.2 with ⟨hv, _⟩ | ⟨g, cap, cur, hv, _, hg, _, _, hcs, htake⟩
  · simp at hv
  · simp at hv
    obtain ⟨rfl, rfl⟩ := hv
    have e1 : cur.toList = (madeCells z.cells (n * size)).toList := by
      rw [← htake, List.take_of_length_le (by simp [hcs])]
    have e2 := made_flat z.cells n (by omega)
    rw [hz] at e2
    rw [e2] at e1
    have e3 : cur = ((List.replicate n z.cells.toList).flatten).toArray := by rw [← e1]
    refine ⟨[], [], ?_, trivial, by simp, by simp, Nat.le_refl _, hlt⟩
    rw [hg, e3, Nat.sub_zero, List.flatten_nil, List.nil_append]

end Go.Proofs.YtkipgbgkhffkkaaGreat

/- Slices of any element: opened, one element at a time; sums over them. -/
namespace Go.Proofs.YtkipgbgkhffkkaaGreat
open Go.RowKit
set_option linter.unusedVariables false
set_option linter.unusedSimpArgs false

theorem rS_open {α : Type} {r : RS α} {w : World} {v : Value} {xs : List α} (h : (R.slice r).rep w [v] xs) : ∃ a cap, v = .slice a xs.length cap ∧ xs.length ≤ cap ∧ cap ≤ 9223372036854775807 ∧ Sl r w a xs.length xs := by
  obtain ⟨a, n, cap, hv, h1, h2, hs⟩ := h
  simp at hv
  have := hs.len
  subst this
  exact ⟨a, cap, hv, h1, h2, hs⟩
theorem rS_mk {α : Type} {r : RS α} {w : World} {a : Option Addr} {n cap : Nat} {xs : List α} (h : Sl r w a n xs) (h1 : n ≤ cap) (h2 : cap ≤ 9223372036854775807) : (R.slice r).rep w [.slice a n cap] xs := ⟨a, n, cap, rfl, h1, h2, h⟩
theorem rS_form {α : Type} {r : RS α} {w : World} {cs : List Value} {xs : List α} (h : (R.slice r).rep w cs xs) : ∃ b n c, cs = [.slice b n c] := by
  obtain ⟨a, n, cap, hv, _⟩ := h
  exact ⟨_, _, _, hv⟩
theorem oS_form1 {α : Type} {t : TypeId} {o : OS α} {r : RS α} (hr : Reads o r) {lo hi : Nat} {w : World} {v : Value} {xs : List α} (h : Own (O.slice t o) lo hi w [v] xs) : ∃ b n c, v = .slice b n c := by
  obtain ⟨b, n, c, hv⟩ := rS_form (h.rd (Reads.slice t hr))
  simp at hv
  exact ⟨_, _, _, hv⟩
theorem rS_sl {α : Type} {r : RS α} {w : World} {a : Option Addr} {n c : Nat} {xs : List α} (h : (R.slice r).rep w [.slice a n c] xs) : Sl r w a n xs := by
  obtain ⟨a', n', c', hv, h1, h2, hs⟩ := h
  simp at hv
  obtain ⟨rfl, rfl, rfl⟩ := hv
  exact hs
theorem rS_cap {α : Type} {r : RS α} {w : World} {a : Option Addr} {n c : Nat} {xs : List α} (h : (R.slice r).rep w [.slice a n c] xs) : n ≤ c ∧ c ≤ 9223372036854775807 := by
  obtain ⟨a', n', c', hv, h1, h2, hs⟩ := h
  simp at hv
  obtain ⟨rfl, rfl, rfl⟩ := hv
  exact ⟨h1, h2⟩
theorem rI_ints {w : World} {a : Option Addr} {n c : Nat} {xs : List Int} (h : rI.rep w [.slice a n c] xs) : Ints w a n xs := (rS_sl h).ints
theorem Sl.at {α : Type} {r : RS α} {w : World} {a : Option Addr} {n : Nat} {xs : List α} (h : Sl r w a n xs) {k : Nat} (hk : k < n) :
    ∃ b off cs x, a = some ⟨b, off, none⟩ ∧ Hid (xs[k]? = some x) ∧ r.rep w cs x ∧ ∀ j u, cs[j]? = some u → w.cell? ⟨b, off + (k * r.size + j), none⟩ = some u := by
  have hk' : k < xs.length := by rw [h.len]; exact hk
  obtain ⟨b, off, cs, ha, hrep, hc⟩ := h.elem k _ (List.getElem?_eq_getElem hk')
  exact ⟨b, off, cs, _, ha, List.getElem?_eq_getElem hk', hrep, hc⟩

def sumBy {α : Type} (f : α → Nat) (xs : List α) : Nat := (xs.map f).sum
theorem sumBy_drop {α : Type} (f : α → Nat) {xs : List α} {j : Nat} {x : α} (h : xs[j]? = some x) : sumBy f (xs.drop j) = f x + sumBy f (xs.drop (j + 1)) := by
  obtain ⟨h1, rfl⟩ := List.getElem?_eq_some_iff.1 h
  rw [List.drop_eq_getElem_cons h1]; simp only [sumBy, List.map_cons, List.sum_cons]
theorem sumBy_take {α : Type} (f : α → Nat) {xs : List α} {j : Nat} {x : α} (h : xs[j]? = some x) : sumBy f (xs.take (j + 1)) = sumBy f (xs.take j) + f x := by
  rw [take_snoc' xs j x h]; simp [sumBy]
theorem sumBy_mem {α : Type} (f : α → Nat) {xs : List α} {j : Nat} {x : α} (h : xs[j]? = some x) : f x ≤ sumBy f xs := by
  have h1 := sumBy_drop f h
  have h2 : sumBy f xs = sumBy f (xs.take j) + sumBy f (xs.drop j) := by
    conv => lhs; rw [← List.take_append_drop j xs]
    simp only [sumBy, List.map_append, List.sum_append]
  omega
theorem sumBy_end {α : Type} (f : α → Nat) {xs : List α} {j : Nat} (h : xs.length ≤ j) : sumBy f (xs.drop j) = 0 := by
  rw [List.drop_eq_nil_of_le h]; rfl
theorem sumBy_all {α : Type} (f : α → Nat) {xs : List α} {j : Nat} (h : xs.length ≤ j) : sumBy f (xs.take j) = sumBy f xs := by
  rw [List.take_of_length_le h]

end Go.Proofs.YtkipgbgkhffkkaaGreat

/- A slice that a loop appends to, while everything else stays. -/
namespace Go.Proofs.YtkipgbgkhffkkaaGreat
open Go.RowKit
set_option linter.unusedVariables false
set_option linter.unusedSimpArgs false

/-- v is a slice of the call's own: its blocks are lo, or from S on. -/
def Acc {α : Type} (E : TypeId) (o : OS α) (lo S hi : Nat) (w : World) (v : Value) (xs : List α) : Prop :=
  ∃ fp, (O.slice E o).rep w [v] xs fp ∧ fp.Nodup ∧ ∀ k ∈ fp, (k = lo ∨ S ≤ k) ∧ k < hi
theorem Acc.below {α : Type} {E : TypeId} {o : OS α} {lo S hi C : Nat} {w w' : World} {v : Value} {xs : List α} (h : Acc E o lo S hi w v xs) (hb : Below C w w') (hC : hi ≤ C) : Acc E o lo S hi w' v xs := by
  obtain ⟨fp, h1, h2, h3⟩ := h
  exact ⟨fp, (O.slice E o).frame h1 (fun k hk => hb.block k (by have := (h3 k hk).2; omega)), h2, h3⟩
theorem Acc.own {α : Type} {E : TypeId} {o : OS α} {lo S hi hi' B : Nat} {w : World} {v : Value} {xs : List α} (h : Acc E o lo S hi w v xs) (hlo : B ≤ lo) (hS : B ≤ S) (hh : hi ≤ hi') : Own (O.slice E o) B hi' w [v] xs := by
  obtain ⟨fp, h1, h2, h3⟩ := h
  exact ⟨fp, h1, h2, fun k hk => by have := h3 k hk; omega⟩
theorem Acc.of {α : Type} {E : TypeId} {o : OS α} {S hi lo : Nat} {w : World} {v : Value} {xs : List α} (h : Own (O.slice E o) S hi w [v] xs) : Acc E o lo S hi w v xs := by
  obtain ⟨fp, h1, h2, h3⟩ := h
  exact ⟨fp, h1, h2, fun k hk => by have := h3 k hk; omega⟩
theorem Acc.empty {α : Type} {E : TypeId} {o : OS α} {S g hi : Nat} {W : World} (hg : W.heap.size = g) (hh : g < hi) : Acc E o W.heap.size S hi (W.alloc (.cells #[] E)) (.slice (some ⟨g, 0, none⟩) 0 0) [] := by
  subst hg
  obtain ⟨fp, h1, h2, h3⟩ := own_empty_S (E := E) (o := o) (Nat.le_refl W.heap.size)
  exact ⟨fp, h1, h2, fun k hk => by have := h3 k hk; omega⟩
theorem Acc.nil {α : Type} {E : TypeId} {o : OS α} {lo S hi : Nat} {w : World} : Acc E o lo S hi w (.slice none 0 0) [] := by
  obtain ⟨fp, h1, h2, h3⟩ := own_nil_S (E := E) (o := o) (B := 0) (W := w)
  exact ⟨fp, h1, h2, fun k hk => by have := h3 k hk; omega⟩
theorem Acc.form {α : Type} {E : TypeId} {o : OS α} {lo S hi : Nat} {w : World} {v : Value} {xs : List α} (h : Acc E o lo S hi w v xs) : ∃ a cap, v = .slice a xs.length cap := by
  obtain ⟨fp, ⟨v1, css, fps, hv, rfl, hrow, hrows⟩, _⟩ := h
  simp at hv
  subst hv
  obtain ⟨a, cap, rfl, _⟩ := own_form hrow
  exact ⟨a, cap, rfl⟩
theorem Acc.form3 {α : Type} {E : TypeId} {o : OS α} {lo S hi : Nat} {w : World} {v : Value} {xs : List α} (h : Acc E o lo S hi w v xs) : ∃ a n cap, v = .slice a n cap := by
  obtain ⟨a, cap, h⟩ := h.form
  exact ⟨_, _, _, h⟩
theorem Acc.wide {α : Type} {E : TypeId} {o : OS α} {lo S S' hi hi' : Nat} {w : World} {v : Value} {xs : List α} (h : Acc E o lo S hi w v xs) (hS : S' ≤ S) (hh : hi ≤ hi') : Acc E o lo S' hi' w v xs := by
  obtain ⟨fp, h1, h2, h3⟩ := h
  exact ⟨fp, h1, h2, fun k hk => by have := h3 k hk; omega⟩
theorem own_int {lo hi : Nat} {w : World} {u : Int} (hu : I64 u) : Own O.int lo hi w [.int .i64 u] u := ⟨[], ⟨rfl, hu, rfl⟩, by simp, by simp⟩
theorem own_str {lo hi : Nat} {w : World} {s : ByteArray} (hs : s.size ≤ 9223372036854775807) : Own O.str lo hi w [.string s] s := ⟨[], ⟨rfl, hs, rfl⟩, by simp, by simp⟩

theorem wpList_acc {α : Type} {T E size bytes : Nat} {z : Value} (hT : Tryz.prog.underlying T = some (.slice E)) (hE : (Tryz.prog.info? E).map (fun i => (i.zero, i.size, i.bytes)) = some (some z, size, bytes)) (hz : z.cells.size = size) (hpos : 0 < size) (hby : bytes ≤ 1000)
    {o' : OS α} (hsz : o'.size = size) {lo S hi9 h1 h2 g9 : Nat} {W0 W : World} {ops : Array Oper} {rest : List Oper} {o : Oper} {a : Act} {Q : Exit → Act → World → Prop}
    (s x : Operand) (v : Value) (xs : List α) (c : List Value) (y : α)
    (hown : Acc E o' lo S hi9 W v xs) (hy : Own o' h1 h2 W c y) (hone : ∀ u ∈ c, u.oneCell' = true) (hS1 : S ≤ h1) (hhi : hi9 ≤ h1) (hh : h1 ≤ h2) (hW : h2 ≤ W.heap.size) (ht : Turn lo (lo + 1) W0 W) (hS : W0.heap.size = S) (hlo : lo < S) (hn : xs.length ≤ 100000000) (hg9 : W.heap.size = g9)
    (hgd : o.guard = none) (ho : o.op = .call { callee := .builtin .append, args := #[s, x], argTypes := #[T, T] })
    (hs : a.eval s = v) (hx : a.eval x = .slice (some ⟨g9, 0, none⟩) 1 1)
    (h : ∀ v' w', Acc E o' lo S w'.heap.size w' v' (xs ++ [y]) → Turn lo (lo + 1) W0 w' → W.heap.size < w'.heap.size → wpList Tryz.prog ops Q rest (a.put o.dst v') w') :
    wpList Tryz.prog ops Q (o :: rest) a (W.alloc (.cells c.toArray E)) := by
  subst hg9
  obtain ⟨i, hi, hz0, hz1, hz2⟩ := info_parts hE
  obtain ⟨fp, ⟨v1, css, fps, hv, rfl, hrow, hrows⟩, hnd, hlim⟩ := hown
  obtain ⟨fy, hyr, hynd, hylim⟩ := hy
  have hts := ht.size
  simp at hv
  subst hv
  obtain ⟨av, cap, rfl, _⟩ := own_form hrow
  have hclen : c.length = size := by rw [← hsz]; exact o'.len hyr
  rw [hsz] at hrow
  have hnl := List.nodup_append.1 hnd
  have hnew : Below W.heap.size W (W.alloc (.cells c.toArray E)) := (Below.refl _ _).alloc (Nat.le_refl _) _
  have hrow1 := own_below hrow hnew (Nat.le_refl _)
  have hrlen := o'.rows_len hrows
  have hlt : ∀ k ∈ bl (.slice av xs.length cap) ++ fps.flatten, k < W.heap.size := fun k hk => by have := (hlim k hk).2; omega
  have hby2 : (xs.length + 1) * bytes ≤ 140737488355328 := Nat.le_trans (Nat.mul_le_mul (show xs.length + 1 ≤ 100000001 by omega) hby) (by decide)
  have hfy : ∀ k ∈ fy, k ∉ bl (.slice av xs.length cap) ++ fps.flatten := fun k hk hm => by have := (hlim k hm).2; have := hylim k hk; omega
  have fin : ∀ (v' : Value) (w' : World), w'.ownsRow 0 E size v' (xs.length + 1) (css.flatten ++ c) → (∀ k, k ∈ fps.flatten ++ fy → w'.heap[k]? = W.heap[k]?) → Turn lo (lo + 1) W0 w' → W.heap.size < w'.heap.size →
      (∀ k ∈ bl v', ((k = lo ∨ S ≤ k) ∧ k < w'.heap.size) ∧ k ∉ fps.flatten ∧ k ∉ fy) → wpList Tryz.prog ops Q rest (a.put o.dst v') w' := by
    intro v' w' h3 h4 h5 h6 h7
    refine h v' w' ⟨bl v' ++ (fps ++ [fy]).flatten, ⟨v', css ++ [c], fps ++ [fy], rfl, rfl, ?_, ?_⟩, ?_, ?_⟩ h5 h6
    · rw [hsz]; simpa using h3
    · exact o'.rows_snoc (o'.frame hyr (fun k hk => h4 k (List.mem_append_right _ hk))) (o'.rows_frame hrows (fun k hk => h4 k (List.mem_append_left _ hk)))
    · rw [List.flatten_append, List.nodup_append]
      refine ⟨by unfold bl; cases v'.ownBlock <;> simp, ?_, ?_⟩
      · rw [List.nodup_append]
        refine ⟨hnl.2.1, by simpa using hynd, ?_⟩
        intro p hp q hq e
        subst e
        exact hfy p (by simpa using hq) (List.mem_append_right _ hp)
      · intro p hp q hq e
        subst e
        have h8 := h7 p hp
        rcases List.mem_append.1 hq with hq | hq
        · exact h8.2.1 hq
        · exact h8.2.2 (by simpa using hq)
    · intro k hk
      rcases List.mem_append.1 hk with hk | hk
      · exact (h7 k hk).1
      · simp only [List.flatten_append, List.mem_append] at hk
        rcases hk with hk | hk
        · have := hlim k (List.mem_append_right _ hk); omega
        · have := hylim k (by simpa using hk); omega
  by_cases hroom : xs.length + 1 ≤ cap
  · -- there is room: the same block
    rcases hrow1.2 with ⟨hv, _⟩ | ⟨g, cap', cur, hv, hB0, hg, hnc, hcm, hcs, htake⟩
    · simp at hv; omega
    · simp at hv
      obtain ⟨rfl, rfl⟩ := hv
      refine wpList_append_fits _ hgd s x T ho 0 E i size hT hi hz1 g xs.length cap css.flatten hs hrow1 ⟨W.heap.size, 0, none⟩ 1 1 c hx (by omega) (fresh_cells W c E) hone hroom ?_
      intro w' h3 h4
      have hgB := hlim g (by simp [bl, Value.ownBlock])
      refine fin _ w' h3 (fun k hk => ?_) ?_ ?_ ?_
      · have hkl : k < W.heap.size := by
          rcases List.mem_append.1 hk with hk | hk
          · exact hlt k (List.mem_append_right _ hk)
          · have := hylim k hk; omega
        rw [h4.block k (by simp; omega) ?_, Below.heap_alloc W _ k hkl]
        intro e
        simp at e
        subst e
        rcases List.mem_append.1 hk with hk | hk
        · exact hnl.2.2 k (by simp [bl, Value.ownBlock]) k hk rfl
        · exact hfy k hk (by simp [bl, Value.ownBlock])
      · refine ⟨h4.os.trans ht.os, h4.tape.trans ht.tape, h4.output.trans ht.output, by have := h4.size; simp at this; omega, fun k hk hx => ?_⟩
        rw [h4.block k (by simp; omega) (by intro e; simp at e; omega), Below.heap_alloc W _ k (by omega)]
        exact ht.block k hk hx
      · have := h4.size; simp at this; omega
      · intro k hk
        simp [bl, Value.ownBlock] at hk
        subst hk
        refine ⟨⟨hgB.1, by have := h4.size; simp at this; omega⟩, fun hm => hnl.2.2 k (by simp [bl, Value.ownBlock]) k hm rfl, fun hm => ?_⟩
        exact hfy k hm (by simp [bl, Value.ownBlock])
  · refine wpList_append_grows _ hgd s x T ho E i z size bytes hT hi hz0 hz1 hz2 hz hpos av xs.length cap css.flatten hs ?_ hrow1.1 ?_ ⟨W.heap.size, 0, none⟩ 1 1 c hx (by omega) (fresh_cells W c E) hone (by omega) (by unfold maxLen; omega) hby2 ?_
    · intro e
      subst e
      rcases hrow1.2 with ⟨hv, h0⟩ | ⟨g, cap', cur, hv, _⟩
      · simp at hv; exact ⟨h0, hv.2⟩
      · simp at hv
    · intro b hbv j u hu
      obtain ⟨g, hg, hcell⟩ := own_cell hrow1 j u hu
      rw [hbv] at hg
      simp at hg
      subst hg
      rw [add_zero_addr]
      exact hcell
    · intro v' w' h3 h4
      refine fin v' w' (own_base h3 (Nat.zero_le _)) (fun k hk => ?_) ?_ ?_ ?_
      · have hkl : k < W.heap.size := by
          rcases List.mem_append.1 hk with hk | hk
          · exact hlt k (List.mem_append_right _ hk)
          · have := hylim k hk; omega
        rw [h4.block k (by simp; omega) (by simp), Below.heap_alloc W _ k hkl]
      · refine ⟨h4.os.trans ht.os, h4.tape.trans ht.tape, h4.output.trans ht.output, by have := h4.size; simp at this; omega, fun k hk hx => ?_⟩
        rw [h4.block k (by simp; omega) (by simp), Below.heap_alloc W _ k (by omega)]
        exact ht.block k hk hx
      · have := h4.size; simp at this; omega
      · intro k hk
        have h5 := h3.lt k (by simpa [bl] using hk)
        simp at h5
        refine ⟨⟨by omega, by omega⟩, fun hm => ?_, fun hm => ?_⟩
        · have := hlt k (List.mem_append_right _ hm); omega
        · have := hylim k hm; omega

/-- 'out = append(out, u)' for ints. -/
theorem wpList_accI {lo S hi9 g9 : Nat} {W0 W : World} {ops : Array Oper} {rest : List Oper} {o : Oper} {a : Act} {Q : Exit → Act → World → Prop}
    (s x : Operand) (v : Value) (xs : List Int) (u : Int)
    (hown : Acc 3 O.int lo S hi9 W v xs) (ht : Turn lo (lo + 1) W0 W) (hS : W0.heap.size = S) (hlo : lo < S) (hhi : hi9 ≤ W.heap.size) (hu : I64 u) (hn : xs.length ≤ 100000000) (hg9 : W.heap.size = g9)
    (hgd : o.guard = none) (ho : o.op = .call { callee := .builtin .append, args := #[s, x], argTypes := #[30, 30] })
    (hs : a.eval s = v) (hx : a.eval x = .slice (some ⟨g9, 0, none⟩) 1 1)
    (h : ∀ v' w', Acc 3 O.int lo S w'.heap.size w' v' (xs ++ [u]) → Turn lo (lo + 1) W0 w' → W.heap.size < w'.heap.size → wpList Tryz.prog ops Q rest (a.put o.dst v') w') :
    wpList Tryz.prog ops Q (o :: rest) a (W.alloc (.cells #[.int .i64 u] 3)) := by
  have hts := ht.size
  exact wpList_acc Tryz.underlying30 infoInt rfl (by decide) (by decide) rfl s x v xs [.int .i64 u] u hown (own_int (lo := W.heap.size) (hi := W.heap.size) hu) (by intro z hz; simp at hz; subst hz; rfl) (by omega) hhi (Nat.le_refl _) (Nat.le_refl _) ht hS hlo hn hg9 hgd ho hs hx h

end Go.Proofs.YtkipgbgkhffkkaaGreat

/- Kind A: shape, size, copy, comparison. Written by a program. -/
namespace Go.Proofs.YtkipgbgkhffkkaaGreat
open Go.RowKit
set_option linter.unusedVariables false
set_option linter.unusedSimpArgs false
set_option synthInstance.maxSize 2000
set_option synthInstance.maxHeartbeats 400000

abbrev DA := ByteArray × List Int
def rA : RS DA := R.pair R.str rI
def oA : OS DA := O.pair O.str oI
theorem reads_A : Reads oA rA := Reads.pair Reads.str reads_I
theorem rA_open {w : World} {cs : List Value} {x : DA} (h : rA.rep w cs x) : ∃ ub1 un1 uc1, cs = [.string x.1, .slice ub1 un1 uc1] ∧ x.1.size ≤ 9223372036854775807 ∧ rI.rep w [.slice ub1 un1 uc1] x.2 := by
  obtain ⟨c0a, c0b, rfl, ⟨rfl, hs0⟩, hr1⟩ := h
  obtain ⟨ub1, un1, uc1, rfl⟩ := rI_form hr1
  exact ⟨_, _, _, rfl, hs0, hr1⟩
theorem rA_form {w : World} {cs : List Value} {x : DA} (h : rA.rep w cs x) : ∃ ub1 un1 uc1, cs = [.string x.1, .slice ub1 un1 uc1] := by
  obtain ⟨ub1, un1, uc1, h1, _⟩ := rA_open h
  exact ⟨_, _, _, h1⟩
theorem rA_mk {w : World} {ub1 : Option Addr} {un1 uc1 : Nat} {x : DA} (h0 : x.1.size ≤ 9223372036854775807) (h1 : rI.rep w [.slice ub1 un1 uc1] x.2) : rA.rep w [.string x.1, .slice ub1 un1 uc1] x :=
  ⟨[.string x.1], [.slice ub1 un1 uc1], rfl, ⟨rfl, h0⟩, h1⟩
theorem oA_form {lo hi : Nat} {w : World} {cs : List Value} {x : DA} (h : Own oA lo hi w cs x) : ∃ ub1 un1 uc1, cs = [.string x.1, .slice ub1 un1 uc1] := rA_form (h.rd reads_A)

theorem oA_mk {lo hi l1 m1 : Nat} {w : World} {ub1 : Option Addr} {un1 uc1 : Nat} {x : DA} (hs0 : x.1.size ≤ 9223372036854775807) (ho1 : Own oI l1 m1 w [.slice ub1 un1 uc1] x.2) (a1 : lo ≤ l1) (b1 : m1 ≤ hi)  : Own oA lo hi w [.string x.1, .slice ub1 un1 uc1] x := by
  obtain ⟨f1, r1, n1, q1⟩ := ho1
  refine ⟨([] ++ f1), ⟨[.string x.1], [.slice ub1 un1 uc1], [], f1, rfl, rfl, ⟨rfl, hs0, rfl⟩, r1⟩, ?_, ?_⟩
  · try simp only [List.nil_append, List.append_nil]
    exact n1
  · intro p hp
    try simp only [List.nil_append, List.append_nil, List.mem_append] at hp
    have := q1 p hp; omega

def bulk_A (x : DA) : Nat := (x.1.size) + (bulk_I x.2)

set_option maxHeartbeats 1000000 in
theorem sz_A (cs : List Value) (x : DA) (left : Int) (w : World) (h : rA.rep w cs x) (h0 : 0 ≤ left) (h1 : left ≤ 1048576) :
    Calls Tryz.prog 79 #[.agg cs.toArray, .int .i64 left] w fun e w' => e = .returned (.int .i64 (szR left (bulk_A x))) ∧ Below w.heap.size w w' := by
  obtain ⟨ub1, un1, uc1, rfl, g0, g1⟩ := rA_open h
  clear h
  have HE0 : Hid (szR left (bulk_A x) = szR left ((x.1.size) + (bulk_I x.2))) := rfl
  go_enter Tryz.func79, Tryz.ntmps79
  obtain ⟨w1, hw1⟩ : ∃ W, W = w.alloc (.cells #[.string x.1, .slice ub1 un1 uc1] 106) := ⟨_, rfl⟩
  have z1 : Below w.heap.size w w1 := by rw [hw1]; exact (Below.refl _ _).alloc (Nat.le_refl _) _
  have s1 : w1.heap.size = w.heap.size + 1 := by rw [hw1]; simp
  have bp_0 : w1.cell? ⟨w.heap.size, 0, none⟩ = some (.string x.1) := by rw [hw1]; exact box_cell (Below.refl _ _) rfl
  have bp_1 : w1.cell? ⟨w.heap.size, 1, none⟩ = some (.slice ub1 un1 uc1) := by rw [hw1]; exact box_cell (Below.refl _ _) rfl
  have hb1 := z1
  by_cases l0 : (x.1.size : Int) ≤ left
  case neg =>
    have HE := Lib.hid (HE0.out.trans (szR_no _ l0))
    go_wp2_with fail
    go_ret
    exact ⟨ret_int HE.out.symm, by first | exact hb1 | (have h9 := hb1; rw [hw1] at h9; exact h9)⟩
  have HE1 := Lib.hid (HE0.out.trans (szR_add l0))
  go_wp2_with fail
  rw [← hw1]
  clear hw1
  refine (sz_I _ (x.2) _ _ (rI.mono g1 hb1) (by omega) (by omega)).mono ?_
  rintro e w' ⟨rfl, rfl⟩
  obtain ⟨q1, hq1⟩ : ∃ q, q = szR (left - x.1.size) (bulk_I (x.2)) := ⟨_, rfl⟩
  rw [← hq1]
  have hc1 := szR_cases (left - x.1.size) (bulk_I (x.2))
  rw [← hq1] at hc1
  clear hq1
  rcases hc1 with ⟨rfl, l1⟩ | ⟨hq1, l1⟩
  · have HE := Lib.hid (HE1.out.trans (szR_no0 l1))
    clear l1
    go_wp2_with fail
    go_ret
    exact ⟨ret_int HE.out.symm, hb1⟩
  have HE2 := Lib.hid (HE1.out.trans ((szR_yes l1).trans (by rw [hq1])) : szR left (bulk_A x) = q1)
  have p1 : 0 ≤ q1 := by omega
  have p1b : q1 ≤ 1048576 := by omega
  clear hq1 l1
  go_wp2_with fail
  go_ret
  exact ⟨ret_int HE2.out.symm, hb1⟩

set_option maxHeartbeats 2000000 in
theorem to_A (cs : List Value) (x : DA) (w : World) (h : rA.rep w cs x) (hn : bulk_A x ≤ 1048576) :
    Calls Tryz.prog 83 #[.agg cs.toArray] w fun e w' => ∃ us, e = .returned (.agg us.toArray) ∧ Own oA w.heap.size w'.heap.size w' us x ∧ Below w.heap.size w w' := by
  obtain ⟨ub1, un1, uc1, rfl, g0, g1⟩ := rA_open h
  clear h
  unfold bulk_A at hn
  have hn1 : bulk_I (x.2) ≤ 1048576 := by omega
  clear hn
  go_enter Tryz.func83, Tryz.ntmps83
  obtain ⟨W0, hW0⟩ : ∃ W, W = ((w.alloc (.cells #[.string x.1, .slice ub1 un1 uc1] 106)).alloc (.cells #[.string ⟨#[]⟩, .slice none 0 0] 69)).alloc (.cells #[.string x.1, .slice none 0 0] 69) := ⟨_, rfl⟩
  have hB0 : Below w.heap.size w W0 := by rw [hW0]; exact (((Below.refl _ _).alloc (Nat.le_refl _) _).alloc (by simp) _).alloc (by simp <;> omega) _
  have t0 : W0.heap.size = w.heap.size + 1 + 1 + 1 := by rw [hW0]; simp
  have bp_0 : W0.cell? ⟨w.heap.size, 0, none⟩ = some (.string x.1) := by rw [hW0]; simp [go_sem, World.cell?_alloc_past]
  have bp_1 : W0.cell? ⟨w.heap.size, 1, none⟩ = some (.slice ub1 un1 uc1) := by rw [hW0]; simp [go_sem, World.cell?_alloc_past]
  have br_0 : W0.cell? ⟨w.heap.size + 1, 0, none⟩ = some (.string ⟨#[]⟩) := by rw [hW0]; simp [go_sem, World.cell?_alloc_past]
  have fr_0 : W0.frozen? ⟨w.heap.size + 1, 0, none⟩ = false := by rw [hW0]; simp [go_sem, World.frozen?_alloc_past]
  have br_1 : W0.cell? ⟨w.heap.size + 1, 1, none⟩ = some (.slice none 0 0) := by rw [hW0]; simp [go_sem, World.cell?_alloc_past]
  have fr_1 : W0.frozen? ⟨w.heap.size + 1, 1, none⟩ = false := by rw [hW0]; simp [go_sem, World.frozen?_alloc_past]
  have bo_0 : W0.cell? ⟨w.heap.size + 1 + 1, 0, none⟩ = some (.string x.1) := by rw [hW0]; simp [go_sem, World.cell?_alloc_past]
  have fo_0 : W0.frozen? ⟨w.heap.size + 1 + 1, 0, none⟩ = false := by rw [hW0]; simp [go_sem, World.frozen?_alloc_past]
  have bo_1 : W0.cell? ⟨w.heap.size + 1 + 1, 1, none⟩ = some (.slice none 0 0) := by rw [hW0]; simp [go_sem, World.cell?_alloc_past]
  have fo_1 : W0.frozen? ⟨w.heap.size + 1 + 1, 1, none⟩ = false := by rw [hW0]; simp [go_sem, World.frozen?_alloc_past]
  go_wp2_with fail
  rw [← hW0]
  clear hW0
  refine (to_I _ (x.2) _ (rI.mono g1 hB0) hn1).mono ?_
  rintro e w1 ⟨a1, rfl, ho1, z1⟩
  have s1 := z1.size
  obtain ⟨ab1, an1, ac1, rfl⟩ := oI_form1 ho1
  have q1 := on hB0 z1
  replace bp_0 := (z1.cell (p := ⟨w.heap.size, 0, none⟩) (by simp only []; omega)).trans bp_0
  replace bp_1 := (z1.cell (p := ⟨w.heap.size, 1, none⟩) (by simp only []; omega)).trans bp_1
  replace br_0 := (z1.cell (p := ⟨w.heap.size + 1, 0, none⟩) (by simp only []; omega)).trans br_0
  replace fr_0 := (z1.frozen (p := ⟨w.heap.size + 1, 0, none⟩) (by simp only []; omega)).trans fr_0
  replace br_1 := (z1.cell (p := ⟨w.heap.size + 1, 1, none⟩) (by simp only []; omega)).trans br_1
  replace fr_1 := (z1.frozen (p := ⟨w.heap.size + 1, 1, none⟩) (by simp only []; omega)).trans fr_1
  replace bo_0 := (z1.cell (p := ⟨w.heap.size + 1 + 1, 0, none⟩) (by simp only []; omega)).trans bo_0
  replace fo_0 := (z1.frozen (p := ⟨w.heap.size + 1 + 1, 0, none⟩) (by simp only []; omega)).trans fo_0
  replace bo_1 := (z1.cell (p := ⟨w.heap.size + 1 + 1, 1, none⟩) (by simp only []; omega)).trans bo_1
  replace fo_1 := (z1.frozen (p := ⟨w.heap.size + 1 + 1, 1, none⟩) (by simp only []; omega)).trans fo_1
  go_wp2_with fail
  refine bodyPost_ret (v := .agg #[.string x.1, .slice ab1 an1 ac1]) (by simp [results, Tryz.results83, go_sem, br_0, br_1, bo_0, bo_1, fr_0, fr_1, fo_0, fo_1]) rfl ⟨_, rfl, ?_, ?_⟩
  · skip
    have hS1 : ∀ (W : World) (p : Addr) (u : Value), p.block < w.heap.size + 1 + 1 + 1 → Own oI W0.heap.size w1.heap.size W [.slice ab1 an1 ac1] (x.2) → Own oI W0.heap.size w1.heap.size (W.setCell p u) [.slice ab1 an1 ac1] (x.2) := fun W p u hp k9 => k9.setOut rfl (by omega)
    exact oA_mk g0 (hS1 _ _ _ (by simp <;> omega) (hS1 _ _ _ (by simp <;> omega) (hS1 _ _ _ (by simp <;> omega) ho1))) (by omega) (by simp [World.setCell] <;> omega) 
  · exact (((q1.setCell (by simp <;> omega) _).setCell (by simp <;> omega) _).setCell (by simp <;> omega) _)

set_option maxHeartbeats 2000000 in
theorem eq_A (cs ds : List Value) (x y : DA) (w : World) (h : rA.rep w cs x) (h' : rA.rep w ds y) :
    Calls Tryz.prog 93 #[.agg cs.toArray, .agg ds.toArray] w fun e w' => e = .returned (.bool (decide (x = y))) ∧ Below w.heap.size w w' := by
  obtain ⟨ub1, un1, uc1, rfl, g0, g1⟩ := rA_open h
  obtain ⟨vb1, vn1, vc1, rfl, k0, k1⟩ := rA_open h'
  clear h h'
  have hb1 : Below w.heap.size w ((w.alloc (.cells #[.string x.1, .slice ub1 un1 uc1] 69)).alloc (.cells #[.string y.1, .slice vb1 vn1 vc1] 69)) := ((Below.refl _ _).alloc (Nat.le_refl _) _).alloc (by simp) _
  go_enter Tryz.func93, Tryz.ntmps93
  obtain ⟨w1, hw1⟩ : ∃ W, W = (w.alloc (.cells #[.string x.1, .slice ub1 un1 uc1] 69)).alloc (.cells #[.string y.1, .slice vb1 vn1 vc1] 69) := ⟨_, rfl⟩
  have s1 : w1.heap.size = w.heap.size + 1 + 1 := by rw [hw1]; simp
  rw [← hw1] at hb1
  have bc_0 : w1.cell? ⟨w.heap.size, 0, none⟩ = some (.string x.1) := by rw [hw1]; simp [go_sem, World.cell?_alloc_past]
  have bd_0 : w1.cell? ⟨w.heap.size + 1, 0, none⟩ = some (.string y.1) := by rw [hw1]; simp [go_sem, World.cell?_alloc_past]
  have bc_1 : w1.cell? ⟨w.heap.size, 1, none⟩ = some (.slice ub1 un1 uc1) := by rw [hw1]; simp [go_sem, World.cell?_alloc_past]
  have bd_1 : w1.cell? ⟨w.heap.size + 1, 1, none⟩ = some (.slice vb1 vn1 vc1) := by rw [hw1]; simp [go_sem, World.cell?_alloc_past]
  by_cases e0 : x.1 = y.1
  case neg =>
    have HE := Lib.hid (show decide (x = y) = false by simp only [decide_eq_false_iff_not]; intro h9; exact e0 (by rw [h9]))
    have hne := bytes_ne e0
    clear e0
    go_wp2_with fail
    go_ret
    exact ⟨ret_bool HE.out.symm, by first | exact hb1 | (rw [hw1] at hb1; exact hb1)⟩
  have E0 := Lib.hid e0
  have hq0 : (x.1.toList == y.1.toList) = true := by rw [e0]; simp
  clear e0
  go_wp2_with fail
  rw [← hw1]
  clear hw1
  refine (eq_I _ _ (x.2) (y.2) _ (rI.mono g1 hb1) (rI.mono k1 hb1)).mono ?_
  rintro e w2 ⟨rfl, z2⟩
  replace z2 : Below w1.heap.size w1 w2 := z2.below _
  have s2 := z2.size
  have hb2 := on hb1 z2
  replace bc_0 := (z2.cell (p := ⟨w.heap.size, 0, none⟩) (by simp only []; omega)).trans bc_0
  replace bd_0 := (z2.cell (p := ⟨w.heap.size + 1, 0, none⟩) (by simp only []; omega)).trans bd_0
  replace bc_1 := (z2.cell (p := ⟨w.heap.size, 1, none⟩) (by simp only []; omega)).trans bc_1
  replace bd_1 := (z2.cell (p := ⟨w.heap.size + 1, 1, none⟩) (by simp only []; omega)).trans bd_1
  by_cases e1 : x.2 = y.2
  case neg =>
    have HE := Lib.hid (show decide (x = y) = false by simp only [decide_eq_false_iff_not]; intro h9; exact e1 (by rw [h9]))
    have hne : decide (x.2 = y.2) = false := by simpa using e1
    rw [hne]
    clear e1 hne
    go_wp2_with fail
    go_ret
    exact ⟨ret_bool HE.out.symm, hb2⟩
  have E1 := Lib.hid e1
  have hq1 : decide (x.2 = y.2) = true := by simpa using e1
  rw [hq1]
  clear e1 hq1
  have HE := Lib.hid (show decide (x = y) = true by simp only [decide_eq_true_eq]; exact Prod.ext E0.out (E1.out))
  go_wp2_with fail
  go_ret
  exact ⟨ret_bool HE.out.symm, hb2⟩

end Go.Proofs.YtkipgbgkhffkkaaGreat

/- Kind II: shape, size, copy, comparison. Written by a program. -/
namespace Go.Proofs.YtkipgbgkhffkkaaGreat
open Go.RowKit
set_option linter.unusedVariables false
set_option linter.unusedSimpArgs false
set_option synthInstance.maxSize 2000
set_option synthInstance.maxHeartbeats 400000

theorem rII_form {w : World} {cs : List Value} {xs : List (List Int)} (h : rII.rep w cs xs) : ∃ b n c, cs = [.slice b n c] := rS_form h
theorem oII_form1 {lo hi : Nat} {w : World} {v : Value} {xs : List (List Int)} (h : Own oII lo hi w [v] xs) : ∃ b n c, v = .slice b n c := oS_form1 reads_I h
def bulk_II (xs : List (List Int)) : Nat := xs.length + sumBy bulk_I xs

set_option maxHeartbeats 1000000 in
theorem sz_II (v : Value) (xs : List (List Int)) (left : Int) (w : World) (h : rII.rep w [v] xs) (h0 : 0 ≤ left) (h1 : left ≤ 1048576) :
    Calls Tryz.prog 116 #[v, .int .i64 left] w fun e w' => e = .returned (.int .i64 (szR left (bulk_II xs))) ∧ Below w.heap.size w w' := by
  obtain ⟨a, cap, rfl, hn1, hn2, hi⟩ := rS_open h
  clear h
  unfold bulk_II
  have hsm := hi.small
  obtain ⟨n, hlen⟩ : ∃ n, xs.length = n := ⟨_, rfl⟩
  rw [hlen] at hi hsm hn1 ⊢
  by_cases hl : (n : Int) ≤ left
  case neg =>
    have HE := Lib.hid (szR_no (sumBy bulk_I xs) hl)
    clear hi
    go_enter Tryz.func116, Tryz.ntmps116
    go_wp2_with fail
    go_ret
    exact ⟨ret_int HE.out.symm, Below.refl _ _⟩
  have HE := Lib.hid (szR_add (b := sumBy bulk_I xs) hl)
  go_enter Tryz.func116, Tryz.ntmps116
  go_wp2_with fail
  go_loopw [1, 5] (fun l i wr => ∃ (j : Nat) (q : Int), j ≤ n ∧ i = .int .i64 j ∧ l = .int .i64 q ∧ 0 ≤ q ∧ q ≤ 1048576 ∧ Hid (szR left (n + sumBy bulk_I xs) = szR q (sumBy bulk_I (xs.drop j))) ∧ Below w.heap.size w wr) (fun _ i _ => n - (intOf i).toNat)
  case atStart => exact ⟨0, left - n, Nat.zero_le _, rfl, rfl, by omega, by omega, HE.out, Below.refl _ _⟩
  case round =>
    obtain ⟨j, q, hj, rfl, rfl, q0, q1, hE, hb⟩ := hrel
    clear HE
    by_cases hlt : j < n
    · obtain ⟨b, off, cs, x, rfl, hx, hr, hc⟩ := (hi.below hb).at hlt
      obtain ⟨ub, un, uc, rfl⟩ := rI_form hr
      have c0 : wr.cell? ⟨b, off + j, none⟩ = some (.slice ub un uc) := by have h9 := hc 0 _ rfl; rw [show rI.size = 1 from rfl] at h9; simpa using h9
      clear hc
      have HS := hE.out.trans (congrArg (szR q) (sumBy_drop bulk_I hx.out))
      have hcs := szR_cases q (bulk_I x)
      have hcall := sz_I _ x q wr hr q0 q1
      obtain ⟨p, hp⟩ : ∃ p, p = szR q (bulk_I x) := ⟨_, rfl⟩
      rw [← hp] at hcall hcs
      have HC := Lib.hid hcall
      clear hcall hi
      rcases hcs with ⟨rfl, l⟩ | ⟨hp2, l⟩
      · have HE := Lib.hid (HS.trans (szR_no _ l))
        clear hp HS l hE
        go_wp2_with fail
        refine HC.out.mono ?_
        rintro e w1 ⟨rfl, z1⟩
        replace z1 : Below wr.heap.size wr w1 := by rw [z1]; exact Below.refl _ _
        go_wp2_with fail
        go_ret
        exact ⟨ret_int HE.out.symm, on hb z1⟩
      · have HE := Lib.hid (HS.trans ((szR_add l).trans (by rw [← hp2])) : szR left (n + sumBy bulk_I xs) = szR p (sumBy bulk_I (xs.drop (j + 1))))
        have p0 : 0 ≤ p := by omega
        have p1 : p ≤ 1048576 := by omega
        clear hp hp2 HS l hE
        go_wp2_with fail
        refine HC.out.mono ?_
        rintro e w1 ⟨rfl, z1⟩
        replace z1 : Below wr.heap.size wr w1 := by rw [z1]; exact Below.refl _ _
        go_wp2_with fail
        go_roundw
        case rel => exact ⟨j + 1, p, by omega, by go_num, rfl, p0, p1, HE, on hb z1⟩
        case measure => simp [intOf]; omega
    · have HE := Lib.hid (hE.out.trans (by rw [sumBy_end _ (by omega)]; unfold szR; rw [if_pos (by omega)]; simp) : szR left (n + sumBy bulk_I xs) = q)
      clear hi hE
      go_wp2_with fail
      go_ret
      exact ⟨ret_int HE.out.symm, hb⟩

set_option maxHeartbeats 2000000 in
set_option maxRecDepth 100000 in
theorem to_II (v : Value) (xs : List (List Int)) (w : World) (h : rII.rep w [v] xs) (hn : bulk_II xs ≤ 1048576) :
    Calls Tryz.prog 119 #[v] w fun e w' => ∃ u, e = .returned u ∧ Own oII w.heap.size w'.heap.size w' [u] xs ∧ Below w.heap.size w w' := by
  obtain ⟨a, cap, rfl, hn1, hn2, hi⟩ := rS_open h
  clear h
  unfold bulk_II at hn
  obtain ⟨n, hlen⟩ : ∃ n, xs.length = n := ⟨_, rfl⟩
  rw [hlen] at hi hn hn1 ⊢
  have hbk : ∀ (j : Nat) x, xs[j]? = some x → bulk_I x ≤ 1048576 := fun j x hx => by have := sumBy_mem bulk_I hx; omega
  have hn3 : n ≤ 100000000 := by omega
  clear hn
  go_enter Tryz.func119, Tryz.ntmps119
  go_wp2_with (at_make; refine wpList_mkS (size := 1) (bytes := 24) (z := .slice none 0 0) rfl rfl rfl (by decide) (by decide) oI xs _ _ n hn3 rfl rfl rfl rfl ?_; intro w1 hp1 hb1 hz1)
  go_wp2_with fail
  go_loopw [4] (fun k wr => ∃ j : Nat, j ≤ n ∧ k = .int .i64 j ∧ Part 30 oI [.slice none 0 0] w.heap.size wr w.heap.size n j xs ∧ Below w.heap.size w wr) (fun k _ => n - (intOf k).toNat)
  case atStart => exact ⟨0, Nat.zero_le _, rfl, hp1, hb1⟩
  case round =>
    obtain ⟨j, hj, rfl, hp, hb⟩ := hrel
    clear hp1 hb1
    by_cases hlt : j < n
    · obtain ⟨b, off, cs, x, rfl, hx, hr, hc⟩ := (hi.below hb).at hlt
      obtain ⟨ub, un, uc, rfl⟩ := rI_form hr
      have c0 : wr.cell? ⟨b, off + j, none⟩ = some (.slice ub un uc) := by have h9 := hc 0 _ rfl; rw [show rI.size = 1 from rfl] at h9; simpa using h9
      clear hc
      have hg : w.heap.size < wr.heap.size := by obtain ⟨_, _, _, _, _, _, _, h9⟩ := hp; exact h9
      have HC := Lib.hid (to_I _ x wr hr (hbk j x hx.out))
      have HI := Lib.hid hi
      go_wp2_with fail
      refine HC.out.mono ?_
      rintro e w1 ⟨d, rfl, ho, z1⟩
      obtain ⟨db, dn, dc, rfl⟩ := oI_form1 ho
      have s1 := z1.size
      have hp1 : Part 30 oI [.slice none 0 0] w.heap.size w1 w.heap.size n j xs := hp.below z1 (Nat.le_refl _)
      obtain ⟨⟨e0, f0⟩, g0⟩ := hp1.cell rfl hlt (by omega) 0 (by decide)
      rw [show oI.size = 1 from rfl, Nat.mul_one, Nat.add_zero] at f0 g0
      replace f0 : w1.cell? ⟨w.heap.size, j, none⟩ = some e0 := f0
      replace g0 : w1.frozen? ⟨w.heap.size, j, none⟩ = false := g0
      have HP := Lib.hid (hp1.step (cs := [.slice db dn dc]) rfl hlt hx.out ho hg ⟨wr, hp, Nat.le_refl _, fun p hp => z1.block p hp⟩ (Nat.le_refl _) (by omega))
      rw [show oI.size = 1 from rfl, Nat.mul_one] at HP
      have hb1 := on hb z1
      clear ho hp hp1
      go_wp2_with fail
      go_roundw
      case rel => exact ⟨j + 1, by omega, by go_num, HP.out, (hb1.setCell (Nat.le_refl _) _)⟩
      case measure => simp [intOf]; omega
    · have hjn : j = n := by omega
      subst hjn
      have HO := Lib.hid (hp.done hlen (by omega))
      clear hp hi
      go_wp2_with fail
      go_ret
      exact ⟨_, rfl, HO.out, hb⟩

set_option maxHeartbeats 2000000 in
theorem eq_II (u v : Value) (xs ys : List (List Int)) (w : World) (h : rII.rep w [u] xs) (h' : rII.rep w [v] ys) :
    Calls Tryz.prog 58 #[u, v] w fun e w' => e = .returned (.bool (decide (xs = ys))) ∧ Below w.heap.size w w' := by
  obtain ⟨a, cap, rfl, _, _, hi⟩ := rS_open h
  obtain ⟨a', cap', rfl, _, _, hi'⟩ := rS_open h'
  exact (eqIntSS_any _ _ _ _ _ _ _ _ _ hi hi').mono fun e w' ⟨h1, h2⟩ => ⟨h1, h2.below _⟩

end Go.Proofs.YtkipgbgkhffkkaaGreat

/- Kind An: shape, size, copy, comparison. Written by a program. -/
namespace Go.Proofs.YtkipgbgkhffkkaaGreat
open Go.RowKit
set_option linter.unusedVariables false
set_option linter.unusedSimpArgs false
set_option synthInstance.maxSize 2000
set_option synthInstance.maxHeartbeats 400000

abbrev DAn := (List Int) × List (List Int)
def rAn : RS DAn := R.pair rI rII
def oAn : OS DAn := O.pair oI oII
theorem reads_An : Reads oAn rAn := Reads.pair reads_I reads_II
theorem rAn_open {w : World} {cs : List Value} {x : DAn} (h : rAn.rep w cs x) : ∃ ub0 un0 uc0 ub1 un1 uc1, cs = [.slice ub0 un0 uc0, .slice ub1 un1 uc1] ∧ rI.rep w [.slice ub0 un0 uc0] x.1 ∧ rII.rep w [.slice ub1 un1 uc1] x.2 := by
  obtain ⟨c0a, c0b, rfl, hr0, hr1⟩ := h
  obtain ⟨ub0, un0, uc0, rfl⟩ := rI_form hr0
  obtain ⟨ub1, un1, uc1, rfl⟩ := rII_form hr1
  exact ⟨_, _, _, _, _, _, rfl, hr0, hr1⟩
theorem rAn_form {w : World} {cs : List Value} {x : DAn} (h : rAn.rep w cs x) : ∃ ub0 un0 uc0 ub1 un1 uc1, cs = [.slice ub0 un0 uc0, .slice ub1 un1 uc1] := by
  obtain ⟨ub0, un0, uc0, ub1, un1, uc1, h1, _⟩ := rAn_open h
  exact ⟨_, _, _, _, _, _, h1⟩
theorem rAn_mk {w : World} {ub0 : Option Addr} {un0 uc0 : Nat} {ub1 : Option Addr} {un1 uc1 : Nat} {x : DAn} (h0 : rI.rep w [.slice ub0 un0 uc0] x.1) (h1 : rII.rep w [.slice ub1 un1 uc1] x.2) : rAn.rep w [.slice ub0 un0 uc0, .slice ub1 un1 uc1] x :=
  ⟨[.slice ub0 un0 uc0], [.slice ub1 un1 uc1], rfl, h0, h1⟩
theorem oAn_form {lo hi : Nat} {w : World} {cs : List Value} {x : DAn} (h : Own oAn lo hi w cs x) : ∃ ub0 un0 uc0 ub1 un1 uc1, cs = [.slice ub0 un0 uc0, .slice ub1 un1 uc1] := rAn_form (h.rd reads_An)

theorem oAn_mk {lo hi l0 m0 l1 m1 : Nat} {w : World} {ub0 : Option Addr} {un0 uc0 : Nat} {ub1 : Option Addr} {un1 uc1 : Nat} {x : DAn} (ho0 : Own oI l0 m0 w [.slice ub0 un0 uc0] x.1) (ho1 : Own oII l1 m1 w [.slice ub1 un1 uc1] x.2) (a0 : lo ≤ l0) (b0 : m0 ≤ hi) (a1 : lo ≤ l1) (b1 : m1 ≤ hi) (d0_1 : m0 ≤ l1) : Own oAn lo hi w [.slice ub0 un0 uc0, .slice ub1 un1 uc1] x := by
  obtain ⟨f0, r0, n0, q0⟩ := ho0
  obtain ⟨f1, r1, n1, q1⟩ := ho1
  refine ⟨(f0 ++ f1), ⟨[.slice ub0 un0 uc0], [.slice ub1 un1 uc1], f0, f1, rfl, rfl, r0, r1⟩, ?_, ?_⟩
  · try simp only [List.nil_append, List.append_nil]
    exact List.nodup_append.2 ⟨n0, n1, fun p hp q hq e => by subst e; have := q0 p hp; have := q1 p hq; omega⟩
  · intro p hp
    try simp only [List.nil_append, List.append_nil, List.mem_append] at hp
    rcases hp with hp | hp
    · have := q0 p hp; omega
    · have := q1 p hp; omega

def bulk_An (x : DAn) : Nat := (bulk_I x.1) + (bulk_II x.2)

set_option maxHeartbeats 2000000 in
theorem eq_An (cs ds : List Value) (x y : DAn) (w : World) (h : rAn.rep w cs x) (h' : rAn.rep w ds y) :
    Calls Tryz.prog 22 #[.agg cs.toArray, .agg ds.toArray] w fun e w' => e = .returned (.bool (decide (x = y))) ∧ Below w.heap.size w w' := by
  obtain ⟨ub0, un0, uc0, ub1, un1, uc1, rfl, g0, g1⟩ := rAn_open h
  obtain ⟨vb0, vn0, vc0, vb1, vn1, vc1, rfl, k0, k1⟩ := rAn_open h'
  clear h h'
  have hb1 : Below w.heap.size w ((w.alloc (.cells #[.slice ub0 un0 uc0, .slice ub1 un1 uc1] 49)).alloc (.cells #[.slice vb0 vn0 vc0, .slice vb1 vn1 vc1] 49)) := ((Below.refl _ _).alloc (Nat.le_refl _) _).alloc (by simp) _
  go_enter Tryz.func22, Tryz.ntmps22
  obtain ⟨w1, hw1⟩ : ∃ W, W = (w.alloc (.cells #[.slice ub0 un0 uc0, .slice ub1 un1 uc1] 49)).alloc (.cells #[.slice vb0 vn0 vc0, .slice vb1 vn1 vc1] 49) := ⟨_, rfl⟩
  have s1 : w1.heap.size = w.heap.size + 1 + 1 := by rw [hw1]; simp
  rw [← hw1] at hb1
  have bc_0 : w1.cell? ⟨w.heap.size, 0, none⟩ = some (.slice ub0 un0 uc0) := by rw [hw1]; simp [go_sem, World.cell?_alloc_past]
  have bd_0 : w1.cell? ⟨w.heap.size + 1, 0, none⟩ = some (.slice vb0 vn0 vc0) := by rw [hw1]; simp [go_sem, World.cell?_alloc_past]
  have bc_1 : w1.cell? ⟨w.heap.size, 1, none⟩ = some (.slice ub1 un1 uc1) := by rw [hw1]; simp [go_sem, World.cell?_alloc_past]
  have bd_1 : w1.cell? ⟨w.heap.size + 1, 1, none⟩ = some (.slice vb1 vn1 vc1) := by rw [hw1]; simp [go_sem, World.cell?_alloc_past]
  go_wp2_with fail
  rw [← hw1]
  clear hw1
  refine (eq_I _ _ (x.1) (y.1) _ (rI.mono g0 hb1) (rI.mono k0 hb1)).mono ?_
  rintro e w2 ⟨rfl, z2⟩
  replace z2 : Below w1.heap.size w1 w2 := z2.below _
  have s2 := z2.size
  have hb2 := on hb1 z2
  replace bc_0 := (z2.cell (p := ⟨w.heap.size, 0, none⟩) (by simp only []; omega)).trans bc_0
  replace bd_0 := (z2.cell (p := ⟨w.heap.size + 1, 0, none⟩) (by simp only []; omega)).trans bd_0
  replace bc_1 := (z2.cell (p := ⟨w.heap.size, 1, none⟩) (by simp only []; omega)).trans bc_1
  replace bd_1 := (z2.cell (p := ⟨w.heap.size + 1, 1, none⟩) (by simp only []; omega)).trans bd_1
  by_cases e0 : x.1 = y.1
  case neg =>
    have HE := Lib.hid (show decide (x = y) = false by simp only [decide_eq_false_iff_not]; intro h9; exact e0 (by rw [h9]))
    have hne : decide (x.1 = y.1) = false := by simpa using e0
    rw [hne]
    clear e0 hne
    go_wp2_with fail
    go_ret
    exact ⟨ret_bool HE.out.symm, hb2⟩
  have E0 := Lib.hid e0
  have hq0 : decide (x.1 = y.1) = true := by simpa using e0
  rw [hq0]
  clear e0 hq0
  go_wp2_with fail
  refine (eq_II _ _ (x.2) (y.2) _ (rII.mono g1 hb2) (rII.mono k1 hb2)).mono ?_
  rintro e w3 ⟨rfl, z3⟩
  have s3 := z3.size
  have hb3 := on hb2 z3
  replace bc_0 := (z3.cell (p := ⟨w.heap.size, 0, none⟩) (by simp only []; omega)).trans bc_0
  replace bd_0 := (z3.cell (p := ⟨w.heap.size + 1, 0, none⟩) (by simp only []; omega)).trans bd_0
  replace bc_1 := (z3.cell (p := ⟨w.heap.size, 1, none⟩) (by simp only []; omega)).trans bc_1
  replace bd_1 := (z3.cell (p := ⟨w.heap.size + 1, 1, none⟩) (by simp only []; omega)).trans bd_1
  by_cases e1 : x.2 = y.2
  case neg =>
    have HE := Lib.hid (show decide (x = y) = false by simp only [decide_eq_false_iff_not]; intro h9; exact e1 (by rw [h9]))
    have hne : decide (x.2 = y.2) = false := by simpa using e1
    rw [hne]
    clear e1 hne
    go_wp2_with fail
    go_ret
    exact ⟨ret_bool HE.out.symm, hb3⟩
  have E1 := Lib.hid e1
  have hq1 : decide (x.2 = y.2) = true := by simpa using e1
  rw [hq1]
  clear e1 hq1
  have HE := Lib.hid (show decide (x = y) = true by simp only [decide_eq_true_eq]; exact Prod.ext E0.out (E1.out))
  go_wp2_with fail
  go_ret
  exact ⟨ret_bool HE.out.symm, hb3⟩

end Go.Proofs.YtkipgbgkhffkkaaGreat

/- Kind As: shape, size, copy, comparison. Written by a program. -/
namespace Go.Proofs.YtkipgbgkhffkkaaGreat
open Go.RowKit
set_option linter.unusedVariables false
set_option linter.unusedSimpArgs false
set_option synthInstance.maxSize 2000
set_option synthInstance.maxHeartbeats 400000

def rAs : RS (List DA) := R.slice rA
def oAs : OS (List DA) := O.slice 69 oA
theorem reads_As : Reads oAs rAs := Reads.slice _ reads_A
theorem rAs_form {w : World} {cs : List Value} {xs : List DA} (h : rAs.rep w cs xs) : ∃ b n c, cs = [.slice b n c] := rS_form h
theorem oAs_form1 {lo hi : Nat} {w : World} {v : Value} {xs : List DA} (h : Own oAs lo hi w [v] xs) : ∃ b n c, v = .slice b n c := oS_form1 reads_A h
def bulk_As (xs : List DA) : Nat := xs.length + sumBy bulk_A xs

set_option maxHeartbeats 1000000 in
theorem sz_As (v : Value) (xs : List DA) (left : Int) (w : World) (h : rAs.rep w [v] xs) (h0 : 0 ≤ left) (h1 : left ≤ 1048576) :
    Calls Tryz.prog 41 #[v, .int .i64 left] w fun e w' => e = .returned (.int .i64 (szR left (bulk_As xs))) ∧ Below w.heap.size w w' := by
  obtain ⟨a, cap, rfl, hn1, hn2, hi⟩ := rS_open h
  clear h
  unfold bulk_As
  have hsm := hi.small
  obtain ⟨n, hlen⟩ : ∃ n, xs.length = n := ⟨_, rfl⟩
  rw [hlen] at hi hsm hn1 ⊢
  by_cases hl : (n : Int) ≤ left
  case neg =>
    have HE := Lib.hid (szR_no (sumBy bulk_A xs) hl)
    clear hi
    go_enter Tryz.func41, Tryz.ntmps41
    go_wp2_with fail
    go_ret
    exact ⟨ret_int HE.out.symm, Below.refl _ _⟩
  have HE := Lib.hid (szR_add (b := sumBy bulk_A xs) hl)
  go_enter Tryz.func41, Tryz.ntmps41
  go_wp2_with fail
  go_loopw [1, 5] (fun l i wr => ∃ (j : Nat) (q : Int), j ≤ n ∧ i = .int .i64 j ∧ l = .int .i64 q ∧ 0 ≤ q ∧ q ≤ 1048576 ∧ Hid (szR left (n + sumBy bulk_A xs) = szR q (sumBy bulk_A (xs.drop j))) ∧ Below w.heap.size w wr) (fun _ i _ => n - (intOf i).toNat)
  case atStart => exact ⟨0, left - n, Nat.zero_le _, rfl, rfl, by omega, by omega, HE.out, Below.refl _ _⟩
  case round =>
    obtain ⟨j, q, hj, rfl, rfl, q0, q1, hE, hb⟩ := hrel
    clear HE
    by_cases hlt : j < n
    · obtain ⟨b, off, cs, x, rfl, hx, hr, hc⟩ := (hi.below hb).at hlt
      obtain ⟨ub1, un1, uc1, rfl⟩ := rA_form hr
      have c0 : wr.cell? ⟨b, off + j * 2, none⟩ = some (.string x.1) := by have h9 := hc 0 _ rfl; rw [← Nat.add_assoc] at h9; exact h9
      have c1 : wr.cell? ⟨b, off + j * 2 + 1, none⟩ = some (.slice ub1 un1 uc1) := by have h9 := hc 1 _ rfl; rw [← Nat.add_assoc] at h9; exact h9
      clear hc
      have HS := hE.out.trans (congrArg (szR q) (sumBy_drop bulk_A hx.out))
      have hcs := szR_cases q (bulk_A x)
      have hcall := sz_A _ x q wr hr q0 q1
      obtain ⟨p, hp⟩ : ∃ p, p = szR q (bulk_A x) := ⟨_, rfl⟩
      rw [← hp] at hcall hcs
      have HC := Lib.hid hcall
      clear hcall hi
      rcases hcs with ⟨rfl, l⟩ | ⟨hp2, l⟩
      · have HE := Lib.hid (HS.trans (szR_no _ l))
        clear hp HS l hE
        go_wp2_with fail
        refine HC.out.mono ?_
        rintro e w1 ⟨rfl, z1⟩
        go_wp2_with fail
        go_ret
        exact ⟨ret_int HE.out.symm, on hb z1⟩
      · have HE := Lib.hid (HS.trans ((szR_add l).trans (by rw [← hp2])) : szR left (n + sumBy bulk_A xs) = szR p (sumBy bulk_A (xs.drop (j + 1))))
        have p0 : 0 ≤ p := by omega
        have p1 : p ≤ 1048576 := by omega
        clear hp hp2 HS l hE
        go_wp2_with fail
        refine HC.out.mono ?_
        rintro e w1 ⟨rfl, z1⟩
        go_wp2_with fail
        go_roundw
        case rel => exact ⟨j + 1, p, by omega, by go_num, rfl, p0, p1, HE, on hb z1⟩
        case measure => simp [intOf]; omega
    · have HE := Lib.hid (hE.out.trans (by rw [sumBy_end _ (by omega)]; unfold szR; rw [if_pos (by omega)]; simp) : szR left (n + sumBy bulk_A xs) = q)
      clear hi hE
      go_wp2_with fail
      go_ret
      exact ⟨ret_int HE.out.symm, hb⟩

set_option maxHeartbeats 2000000 in
set_option maxRecDepth 100000 in
theorem to_As (v : Value) (xs : List DA) (w : World) (h : rAs.rep w [v] xs) (hn : bulk_As xs ≤ 1048576) :
    Calls Tryz.prog 45 #[v] w fun e w' => ∃ u, e = .returned u ∧ Own oAs w.heap.size w'.heap.size w' [u] xs ∧ Below w.heap.size w w' := by
  obtain ⟨a, cap, rfl, hn1, hn2, hi⟩ := rS_open h
  clear h
  unfold bulk_As at hn
  obtain ⟨n, hlen⟩ : ∃ n, xs.length = n := ⟨_, rfl⟩
  rw [hlen] at hi hn hn1 ⊢
  have hbk : ∀ (j : Nat) x, xs[j]? = some x → bulk_A x ≤ 1048576 := fun j x hx => by have := sumBy_mem bulk_A hx; omega
  have hn3 : n ≤ 100000000 := by omega
  clear hn
  go_enter Tryz.func45, Tryz.ntmps45
  go_wp2_with (at_make; refine wpList_mkS (size := 2) (bytes := 40) (z := .agg #[.string ⟨#[]⟩, .slice none 0 0]) rfl rfl rfl (by decide) (by decide) oA xs _ _ n hn3 rfl rfl rfl rfl ?_; intro w1 hp1 hb1 hz1)
  go_wp2_with fail
  go_loopw [4] (fun k wr => ∃ j : Nat, j ≤ n ∧ k = .int .i64 j ∧ Part 69 oA [.string ⟨#[]⟩, .slice none 0 0] w.heap.size wr w.heap.size n j xs ∧ Below w.heap.size w wr) (fun k _ => n - (intOf k).toNat)
  case atStart => exact ⟨0, Nat.zero_le _, rfl, hp1, hb1⟩
  case round =>
    obtain ⟨j, hj, rfl, hp, hb⟩ := hrel
    clear hp1 hb1
    by_cases hlt : j < n
    · obtain ⟨b, off, cs, x, rfl, hx, hr, hc⟩ := (hi.below hb).at hlt
      obtain ⟨ub1, un1, uc1, rfl⟩ := rA_form hr
      have c0 : wr.cell? ⟨b, off + j * 2, none⟩ = some (.string x.1) := by have h9 := hc 0 _ rfl; rw [← Nat.add_assoc] at h9; exact h9
      have c1 : wr.cell? ⟨b, off + j * 2 + 1, none⟩ = some (.slice ub1 un1 uc1) := by have h9 := hc 1 _ rfl; rw [← Nat.add_assoc] at h9; exact h9
      clear hc
      have hg : w.heap.size < wr.heap.size := by obtain ⟨_, _, _, _, _, _, _, h9⟩ := hp; exact h9
      have HC := Lib.hid (to_A _ x wr hr (hbk j x hx.out))
      have HI := Lib.hid hi
      go_wp2_with fail
      refine HC.out.mono ?_
      rintro e w1 ⟨d, rfl, ho, z1⟩
      obtain ⟨db1, dn1, dc1, rfl⟩ := oA_form ho
      have s1 := z1.size
      have hp1 : Part 69 oA [.string ⟨#[]⟩, .slice none 0 0] w.heap.size w1 w.heap.size n j xs := hp.below z1 (Nat.le_refl _)
      obtain ⟨⟨e0, f0⟩, g0⟩ := hp1.cell rfl hlt (by omega) 0 (by decide)
      replace f0 : w1.cell? ⟨w.heap.size, j * 2, none⟩ = some e0 := f0
      replace g0 : w1.frozen? ⟨w.heap.size, j * 2, none⟩ = false := g0
      obtain ⟨⟨e1, f1⟩, g1⟩ := hp1.cell rfl hlt (by omega) 1 (by decide)
      replace f1 : w1.cell? ⟨w.heap.size, j * 2 + 1, none⟩ = some e1 := f1
      replace g1 : w1.frozen? ⟨w.heap.size, j * 2 + 1, none⟩ = false := g1
      have HP := Lib.hid (hp1.step (cs := [.string x.1, .slice db1 dn1 dc1]) rfl hlt hx.out ho hg ⟨wr, hp, Nat.le_refl _, fun p hp => z1.block p hp⟩ (Nat.le_refl _) (by omega))
      have hb1 := on hb z1
      clear ho hp hp1
      go_wp2_with fail
      go_roundw
      case rel => exact ⟨j + 1, by omega, by go_num, HP.out, ((hb1.setCell (Nat.le_refl _) _).setCell (Nat.le_refl _) _)⟩
      case measure => simp [intOf]; omega
    · have hjn : j = n := by omega
      subst hjn
      have HO := Lib.hid (hp.done hlen (by omega))
      clear hp hi
      go_wp2_with fail
      go_ret
      exact ⟨_, rfl, HO.out, hb⟩

set_option maxHeartbeats 2000000 in
theorem eq_As (u v : Value) (xs ys : List DA) (w : World) (h : rAs.rep w [u] xs) (h' : rAs.rep w [v] ys) :
    Calls Tryz.prog 51 #[u, v] w fun e w' => e = .returned (.bool (decide (xs = ys))) ∧ Below w.heap.size w w' := by
  obtain ⟨a, cap, rfl, _, _, hi⟩ := rS_open h
  obtain ⟨a', cap', rfl, _, _, hi'⟩ := rS_open h'
  clear h h'
  have hn := hi.small
  have hn' := hi'.small
  obtain ⟨n, hl⟩ : ∃ n, xs.length = n := ⟨_, rfl⟩
  obtain ⟨m, hl'⟩ : ∃ n, ys.length = n := ⟨_, rfl⟩
  rw [hl] at hi hn ⊢
  rw [hl'] at hi' hn' ⊢
  by_cases hnm : n = m
  case neg =>
    have HE := Lib.hid (show decide (xs = ys) = false by simp only [decide_eq_false_iff_not]; intro e; subst e; omega)
    have hne : ((n : Int) != (m : Int)) = true := by rw [bne_iff_ne]; omega
    clear hl hl' hi hi'
    go_enter Tryz.func51, Tryz.ntmps51
    go_wp2_with fail
    go_ret
    exact ⟨ret_bool HE.out.symm, Below.refl _ _⟩
  subst hnm
  go_enter Tryz.func51, Tryz.ntmps51
  go_wp2_with fail
  go_loopw [5] (fun k wr => ∃ j : Nat, j ≤ n ∧ k = .int .i64 j ∧ Hid (xs.take j = ys.take j) ∧ Below w.heap.size w wr) (fun k _ => n - (intOf k).toNat)
  case atStart => exact ⟨0, Nat.zero_le _, rfl, rfl, Below.refl _ _⟩
  case round =>
    obtain ⟨j, hj, rfl, hE, hb⟩ := hrel
    by_cases hlt : j < n
    · obtain ⟨b, off, cs, x, rfl, hx, hr, hc⟩ := (hi.below hb).at hlt
      obtain ⟨b', off', ds, y, rfl, hy, hr', hd⟩ := (hi'.below hb).at hlt
      obtain ⟨ub1, un1, uc1, rfl⟩ := rA_form hr
      obtain ⟨vb1, vn1, vc1, rfl⟩ := rA_form hr'
      have c0 : wr.cell? ⟨b, off + j * 2, none⟩ = some (.string x.1) := by have h9 := hc 0 _ rfl; rw [← Nat.add_assoc] at h9; exact h9
      have c1 : wr.cell? ⟨b, off + j * 2 + 1, none⟩ = some (.slice ub1 un1 uc1) := by have h9 := hc 1 _ rfl; rw [← Nat.add_assoc] at h9; exact h9
      have d0 : wr.cell? ⟨b', off' + j * 2, none⟩ = some (.string y.1) := by have h9 := hd 0 _ rfl; rw [← Nat.add_assoc] at h9; exact h9
      have d1 : wr.cell? ⟨b', off' + j * 2 + 1, none⟩ = some (.slice vb1 vn1 vc1) := by have h9 := hd 1 _ rfl; rw [← Nat.add_assoc] at h9; exact h9
      have hcall := fun (W : World) (hW : Below wr.heap.size wr W) => eq_A _ _ x y W (rA.mono hr hW) (rA.mono hr' hW)
      obtain ⟨t, ht⟩ : ∃ t, t = decide (x = y) := ⟨_, rfl⟩
      rw [← ht] at hcall
      have HC := Lib.hid hcall
      clear hcall hi hi' hr hr' hc hd
      have HT : Hid (if t = true then xs.take (j + 1) = ys.take (j + 1) else decide (xs = ys) = false) := by
        cases t
        · simp only [Bool.false_eq_true, if_false]
          have hxy : x ≠ y := by simpa using ht.symm
          simp only [Hid, Bool.false_eq_true, if_false, decide_eq_false_iff_not]; intro e; subst e; exact hxy (Option.some.inj (hx.out.symm.trans hy.out))
        · have hxy : x = y := by simpa using ht.symm
          simp only [Hid, if_true]; rw [take_snoc' xs j x hx.out, take_snoc' ys j y hy.out, hE.out, hxy]
      clear ht hx hy hE
      have lb : b < wr.heap.size := cell_lt c0
      have lb' : b' < wr.heap.size := cell_lt d0
      go_wp2_with fail
      go_region_held3 (fun W => W.cell? ⟨b, off + j * 2, none⟩ = some (.string x.1) ∧ W.cell? ⟨b, off + j * 2 + 1, none⟩ = some (.slice ub1 un1 uc1) ∧ W.cell? ⟨b', off' + j * 2, none⟩ = some (.string y.1) ∧ W.cell? ⟨b', off' + j * 2 + 1, none⟩ = some (.slice vb1 vn1 vc1)) (first | exact ⟨c0, c1, d0, d1⟩ | assumption) ((go_at_call 93; refine (HC.out _ (Below.refl _ _).drew).mono ?_; rintro e w1 ⟨rfl, z1⟩; replace z1 : Below wr.heap.size wr w1 := (Below.refl _ _).drew.trans z1; have hS0 := (⟨(z1.cell (p := ⟨b, off + j * 2, none⟩) (by simp only []; omega)).trans c0, (z1.cell (p := ⟨b, off + j * 2 + 1, none⟩) (by simp only []; omega)).trans c1, (z1.cell (p := ⟨b', off' + j * 2, none⟩) (by simp only []; omega)).trans d0, (z1.cell (p := ⟨b', off' + j * 2 + 1, none⟩) (by simp only []; omega)).trans d1⟩ : (fun W => W.cell? ⟨b, off + j * 2, none⟩ = some (.string x.1) ∧ W.cell? ⟨b, off + j * 2 + 1, none⟩ = some (.slice ub1 un1 uc1) ∧ W.cell? ⟨b', off' + j * 2, none⟩ = some (.string y.1) ∧ W.cell? ⟨b', off' + j * 2 + 1, none⟩ = some (.slice vb1 vn1 vc1)) w1)))
      replace z1 : Below wr.heap.size wr w1 := z1
      have z2 := on hb z1
      cases t
      · have HE : Hid (decide (xs = ys) = false) := by simpa [Hid] using HT.out
        go_wp2_with fail
        go_ret
        exact ⟨ret_bool HE.out.symm, z2⟩
      · have HE : Hid (xs.take (j + 1) = ys.take (j + 1)) := by simpa [Hid] using HT.out
        go_wp2_with fail
        go_roundw
        case rel => exact ⟨j + 1, by omega, by go_num, HE.out, z2⟩
        case measure => simp [intOf]; omega
    · have HE := Lib.hid (show decide (xs = ys) = true by
        have e := hE.out
        rw [List.take_of_length_le (by omega), List.take_of_length_le (by omega)] at e
        simp [e])
      clear hi hi' hl hl'
      go_wp2_with fail
      go_ret
      exact ⟨ret_bool HE.out.symm, hb⟩

end Go.Proofs.YtkipgbgkhffkkaaGreat

/- Kind T: shape, size, copy, comparison. Written by a program. -/
namespace Go.Proofs.YtkipgbgkhffkkaaGreat
open Go.RowKit
set_option linter.unusedVariables false
set_option linter.unusedSimpArgs false
set_option synthInstance.maxSize 2000
set_option synthInstance.maxHeartbeats 400000

abbrev DT := ByteArray × Int × List (List Int)
def rT : RS DT := R.pair R.str (R.pair R.int rII)
def oT : OS DT := O.pair O.str (O.pair O.int oII)
theorem reads_T : Reads oT rT := Reads.pair Reads.str (Reads.pair Reads.int reads_II)
theorem rT_open {w : World} {cs : List Value} {x : DT} (h : rT.rep w cs x) : ∃ ub2 un2 uc2, cs = [.string x.1, .int .i64 x.2.1, .slice ub2 un2 uc2] ∧ x.1.size ≤ 9223372036854775807 ∧ I64 x.2.1 ∧ rII.rep w [.slice ub2 un2 uc2] x.2.2 := by
  obtain ⟨c0a, c0b, rfl, ⟨rfl, hs0⟩, ⟨c1a, c1b, rfl, ⟨rfl, hi1⟩, hr2⟩⟩ := h
  obtain ⟨ub2, un2, uc2, rfl⟩ := rII_form hr2
  exact ⟨_, _, _, rfl, hs0, hi1, hr2⟩
theorem rT_form {w : World} {cs : List Value} {x : DT} (h : rT.rep w cs x) : ∃ ub2 un2 uc2, cs = [.string x.1, .int .i64 x.2.1, .slice ub2 un2 uc2] := by
  obtain ⟨ub2, un2, uc2, h1, _⟩ := rT_open h
  exact ⟨_, _, _, h1⟩
theorem rT_mk {w : World} {ub2 : Option Addr} {un2 uc2 : Nat} {x : DT} (h0 : x.1.size ≤ 9223372036854775807) (h1 : I64 x.2.1) (h2 : rII.rep w [.slice ub2 un2 uc2] x.2.2) : rT.rep w [.string x.1, .int .i64 x.2.1, .slice ub2 un2 uc2] x :=
  ⟨[.string x.1], [.int .i64 x.2.1, .slice ub2 un2 uc2], rfl, ⟨rfl, h0⟩, ⟨[.int .i64 x.2.1], [.slice ub2 un2 uc2], rfl, ⟨rfl, h1⟩, h2⟩⟩
theorem oT_form {lo hi : Nat} {w : World} {cs : List Value} {x : DT} (h : Own oT lo hi w cs x) : ∃ ub2 un2 uc2, cs = [.string x.1, .int .i64 x.2.1, .slice ub2 un2 uc2] := rT_form (h.rd reads_T)

theorem oT_mk {lo hi l2 m2 : Nat} {w : World} {ub2 : Option Addr} {un2 uc2 : Nat} {x : DT} (hs0 : x.1.size ≤ 9223372036854775807) (hi1 : I64 x.2.1) (ho2 : Own oII l2 m2 w [.slice ub2 un2 uc2] x.2.2) (a2 : lo ≤ l2) (b2 : m2 ≤ hi)  : Own oT lo hi w [.string x.1, .int .i64 x.2.1, .slice ub2 un2 uc2] x := by
  obtain ⟨f2, r2, n2, q2⟩ := ho2
  refine ⟨([] ++ ([] ++ f2)), ⟨[.string x.1], [.int .i64 x.2.1, .slice ub2 un2 uc2], [], ([] ++ f2), rfl, rfl, ⟨rfl, hs0, rfl⟩, ⟨[.int .i64 x.2.1], [.slice ub2 un2 uc2], [], f2, rfl, rfl, ⟨rfl, hi1, rfl⟩, r2⟩⟩, ?_, ?_⟩
  · try simp only [List.nil_append, List.append_nil]
    exact n2
  · intro p hp
    try simp only [List.nil_append, List.append_nil, List.mem_append] at hp
    have := q2 p hp; omega

def bulk_T (x : DT) : Nat := (x.1.size) + (bulk_II x.2.2)

set_option maxHeartbeats 1000000 in
theorem sz_T (cs : List Value) (x : DT) (left : Int) (w : World) (h : rT.rep w cs x) (h0 : 0 ≤ left) (h1 : left ≤ 1048576) :
    Calls Tryz.prog 78 #[.agg cs.toArray, .int .i64 left] w fun e w' => e = .returned (.int .i64 (szR left (bulk_T x))) ∧ Below w.heap.size w w' := by
  obtain ⟨ub2, un2, uc2, rfl, g0, g1, g2⟩ := rT_open h
  clear h
  have HE0 : Hid (szR left (bulk_T x) = szR left ((x.1.size) + (bulk_II x.2.2))) := rfl
  go_enter Tryz.func78, Tryz.ntmps78
  obtain ⟨w1, hw1⟩ : ∃ W, W = w.alloc (.cells #[.string x.1, .int .i64 x.2.1, .slice ub2 un2 uc2] 104) := ⟨_, rfl⟩
  have z1 : Below w.heap.size w w1 := by rw [hw1]; exact (Below.refl _ _).alloc (Nat.le_refl _) _
  have s1 : w1.heap.size = w.heap.size + 1 := by rw [hw1]; simp
  have bp_0 : w1.cell? ⟨w.heap.size, 0, none⟩ = some (.string x.1) := by rw [hw1]; exact box_cell (Below.refl _ _) rfl
  have bp_1 : w1.cell? ⟨w.heap.size, 1, none⟩ = some (.int .i64 x.2.1) := by rw [hw1]; exact box_cell (Below.refl _ _) rfl
  have bp_2 : w1.cell? ⟨w.heap.size, 2, none⟩ = some (.slice ub2 un2 uc2) := by rw [hw1]; exact box_cell (Below.refl _ _) rfl
  have hb1 := z1
  by_cases l0 : (x.1.size : Int) ≤ left
  case neg =>
    have HE := Lib.hid (HE0.out.trans (szR_no _ l0))
    go_wp2_with fail
    go_ret
    exact ⟨ret_int HE.out.symm, by first | exact hb1 | (have h9 := hb1; rw [hw1] at h9; exact h9)⟩
  have HE1 := Lib.hid (HE0.out.trans (szR_add l0))
  go_wp2_with fail
  rw [← hw1]
  clear hw1
  refine (sz_II _ (x.2.2) _ _ (rII.mono g2 hb1) (by omega) (by omega)).mono ?_
  rintro e w2 ⟨rfl, z2⟩
  have s2 := z2.size
  have hb2 := on hb1 z2
  replace bp_0 := (z2.cell (p := ⟨w.heap.size, 0, none⟩) (by simp only []; omega)).trans bp_0
  replace bp_1 := (z2.cell (p := ⟨w.heap.size, 1, none⟩) (by simp only []; omega)).trans bp_1
  replace bp_2 := (z2.cell (p := ⟨w.heap.size, 2, none⟩) (by simp only []; omega)).trans bp_2
  obtain ⟨q2, hq2⟩ : ∃ q, q = szR (left - x.1.size) (bulk_II (x.2.2)) := ⟨_, rfl⟩
  rw [← hq2]
  have hc2 := szR_cases (left - x.1.size) (bulk_II (x.2.2))
  rw [← hq2] at hc2
  clear hq2
  rcases hc2 with ⟨rfl, l2⟩ | ⟨hq2, l2⟩
  · have HE := Lib.hid (HE1.out.trans (szR_no0 l2))
    clear l2
    go_wp2_with fail
    go_ret
    exact ⟨ret_int HE.out.symm, hb2⟩
  have HE2 := Lib.hid (HE1.out.trans ((szR_yes l2).trans (by rw [hq2])) : szR left (bulk_T x) = q2)
  have p2 : 0 ≤ q2 := by omega
  have p2b : q2 ≤ 1048576 := by omega
  clear hq2 l2
  go_wp2_with fail
  go_ret
  exact ⟨ret_int HE2.out.symm, hb2⟩

set_option maxHeartbeats 2000000 in
theorem to_T (cs : List Value) (x : DT) (w : World) (h : rT.rep w cs x) (hn : bulk_T x ≤ 1048576) :
    Calls Tryz.prog 82 #[.agg cs.toArray] w fun e w' => ∃ us, e = .returned (.agg us.toArray) ∧ Own oT w.heap.size w'.heap.size w' us x ∧ Below w.heap.size w w' := by
  obtain ⟨ub2, un2, uc2, rfl, g0, g1, g2⟩ := rT_open h
  clear h
  unfold bulk_T at hn
  have hn2 : bulk_II (x.2.2) ≤ 1048576 := by omega
  clear hn
  go_enter Tryz.func82, Tryz.ntmps82
  obtain ⟨W0, hW0⟩ : ∃ W, W = ((w.alloc (.cells #[.string x.1, .int .i64 x.2.1, .slice ub2 un2 uc2] 104)).alloc (.cells #[.string ⟨#[]⟩, .int .i64 0, .slice none 0 0] 65)).alloc (.cells #[.string x.1, .int .i64 x.2.1, .slice none 0 0] 65) := ⟨_, rfl⟩
  have hB0 : Below w.heap.size w W0 := by rw [hW0]; exact (((Below.refl _ _).alloc (Nat.le_refl _) _).alloc (by simp) _).alloc (by simp <;> omega) _
  have t0 : W0.heap.size = w.heap.size + 1 + 1 + 1 := by rw [hW0]; simp
  have bp_0 : W0.cell? ⟨w.heap.size, 0, none⟩ = some (.string x.1) := by rw [hW0]; simp [go_sem, World.cell?_alloc_past]
  have bp_1 : W0.cell? ⟨w.heap.size, 1, none⟩ = some (.int .i64 x.2.1) := by rw [hW0]; simp [go_sem, World.cell?_alloc_past]
  have bp_2 : W0.cell? ⟨w.heap.size, 2, none⟩ = some (.slice ub2 un2 uc2) := by rw [hW0]; simp [go_sem, World.cell?_alloc_past]
  have br_0 : W0.cell? ⟨w.heap.size + 1, 0, none⟩ = some (.string ⟨#[]⟩) := by rw [hW0]; simp [go_sem, World.cell?_alloc_past]
  have fr_0 : W0.frozen? ⟨w.heap.size + 1, 0, none⟩ = false := by rw [hW0]; simp [go_sem, World.frozen?_alloc_past]
  have br_1 : W0.cell? ⟨w.heap.size + 1, 1, none⟩ = some (.int .i64 0) := by rw [hW0]; simp [go_sem, World.cell?_alloc_past]
  have fr_1 : W0.frozen? ⟨w.heap.size + 1, 1, none⟩ = false := by rw [hW0]; simp [go_sem, World.frozen?_alloc_past]
  have br_2 : W0.cell? ⟨w.heap.size + 1, 2, none⟩ = some (.slice none 0 0) := by rw [hW0]; simp [go_sem, World.cell?_alloc_past]
  have fr_2 : W0.frozen? ⟨w.heap.size + 1, 2, none⟩ = false := by rw [hW0]; simp [go_sem, World.frozen?_alloc_past]
  have bo_0 : W0.cell? ⟨w.heap.size + 1 + 1, 0, none⟩ = some (.string x.1) := by rw [hW0]; simp [go_sem, World.cell?_alloc_past]
  have fo_0 : W0.frozen? ⟨w.heap.size + 1 + 1, 0, none⟩ = false := by rw [hW0]; simp [go_sem, World.frozen?_alloc_past]
  have bo_1 : W0.cell? ⟨w.heap.size + 1 + 1, 1, none⟩ = some (.int .i64 x.2.1) := by rw [hW0]; simp [go_sem, World.cell?_alloc_past]
  have fo_1 : W0.frozen? ⟨w.heap.size + 1 + 1, 1, none⟩ = false := by rw [hW0]; simp [go_sem, World.frozen?_alloc_past]
  have bo_2 : W0.cell? ⟨w.heap.size + 1 + 1, 2, none⟩ = some (.slice none 0 0) := by rw [hW0]; simp [go_sem, World.cell?_alloc_past]
  have fo_2 : W0.frozen? ⟨w.heap.size + 1 + 1, 2, none⟩ = false := by rw [hW0]; simp [go_sem, World.frozen?_alloc_past]
  go_wp2_with fail
  rw [← hW0]
  clear hW0
  refine (to_II _ (x.2.2) _ (rII.mono g2 hB0) hn2).mono ?_
  rintro e w1 ⟨a2, rfl, ho2, z1⟩
  have s1 := z1.size
  obtain ⟨ab2, an2, ac2, rfl⟩ := oII_form1 ho2
  have q1 := on hB0 z1
  replace bp_0 := (z1.cell (p := ⟨w.heap.size, 0, none⟩) (by simp only []; omega)).trans bp_0
  replace bp_1 := (z1.cell (p := ⟨w.heap.size, 1, none⟩) (by simp only []; omega)).trans bp_1
  replace bp_2 := (z1.cell (p := ⟨w.heap.size, 2, none⟩) (by simp only []; omega)).trans bp_2
  replace br_0 := (z1.cell (p := ⟨w.heap.size + 1, 0, none⟩) (by simp only []; omega)).trans br_0
  replace fr_0 := (z1.frozen (p := ⟨w.heap.size + 1, 0, none⟩) (by simp only []; omega)).trans fr_0
  replace br_1 := (z1.cell (p := ⟨w.heap.size + 1, 1, none⟩) (by simp only []; omega)).trans br_1
  replace fr_1 := (z1.frozen (p := ⟨w.heap.size + 1, 1, none⟩) (by simp only []; omega)).trans fr_1
  replace br_2 := (z1.cell (p := ⟨w.heap.size + 1, 2, none⟩) (by simp only []; omega)).trans br_2
  replace fr_2 := (z1.frozen (p := ⟨w.heap.size + 1, 2, none⟩) (by simp only []; omega)).trans fr_2
  replace bo_0 := (z1.cell (p := ⟨w.heap.size + 1 + 1, 0, none⟩) (by simp only []; omega)).trans bo_0
  replace fo_0 := (z1.frozen (p := ⟨w.heap.size + 1 + 1, 0, none⟩) (by simp only []; omega)).trans fo_0
  replace bo_1 := (z1.cell (p := ⟨w.heap.size + 1 + 1, 1, none⟩) (by simp only []; omega)).trans bo_1
  replace fo_1 := (z1.frozen (p := ⟨w.heap.size + 1 + 1, 1, none⟩) (by simp only []; omega)).trans fo_1
  replace bo_2 := (z1.cell (p := ⟨w.heap.size + 1 + 1, 2, none⟩) (by simp only []; omega)).trans bo_2
  replace fo_2 := (z1.frozen (p := ⟨w.heap.size + 1 + 1, 2, none⟩) (by simp only []; omega)).trans fo_2
  go_wp2_with fail
  refine bodyPost_ret (v := .agg #[.string x.1, .int .i64 x.2.1, .slice ab2 an2 ac2]) (by simp [results, Tryz.results82, go_sem, br_0, br_1, br_2, bo_0, bo_1, bo_2, fr_0, fr_1, fr_2, fo_0, fo_1, fo_2]) rfl ⟨_, rfl, ?_, ?_⟩
  · skip
    have hS2 : ∀ (W : World) (p : Addr) (u : Value), p.block < w.heap.size + 1 + 1 + 1 → Own oII W0.heap.size w1.heap.size W [.slice ab2 an2 ac2] (x.2.2) → Own oII W0.heap.size w1.heap.size (W.setCell p u) [.slice ab2 an2 ac2] (x.2.2) := fun W p u hp k9 => k9.setOut rfl (by omega)
    exact oT_mk g0 g1 (hS2 _ _ _ (by simp <;> omega) (hS2 _ _ _ (by simp <;> omega) (hS2 _ _ _ (by simp <;> omega) (hS2 _ _ _ (by simp <;> omega) ho2)))) (by omega) (by simp [World.setCell] <;> omega) 
  · exact ((((q1.setCell (by simp <;> omega) _).setCell (by simp <;> omega) _).setCell (by simp <;> omega) _).setCell (by simp <;> omega) _)

set_option maxHeartbeats 2000000 in
theorem eq_T (cs ds : List Value) (x y : DT) (w : World) (h : rT.rep w cs x) (h' : rT.rep w ds y) :
    Calls Tryz.prog 92 #[.agg cs.toArray, .agg ds.toArray] w fun e w' => e = .returned (.bool (decide (x = y))) ∧ Below w.heap.size w w' := by
  obtain ⟨ub2, un2, uc2, rfl, g0, g1, g2⟩ := rT_open h
  obtain ⟨vb2, vn2, vc2, rfl, k0, k1, k2⟩ := rT_open h'
  clear h h'
  have hb1 : Below w.heap.size w ((w.alloc (.cells #[.string x.1, .int .i64 x.2.1, .slice ub2 un2 uc2] 65)).alloc (.cells #[.string y.1, .int .i64 y.2.1, .slice vb2 vn2 vc2] 65)) := ((Below.refl _ _).alloc (Nat.le_refl _) _).alloc (by simp) _
  go_enter Tryz.func92, Tryz.ntmps92
  obtain ⟨w1, hw1⟩ : ∃ W, W = (w.alloc (.cells #[.string x.1, .int .i64 x.2.1, .slice ub2 un2 uc2] 65)).alloc (.cells #[.string y.1, .int .i64 y.2.1, .slice vb2 vn2 vc2] 65) := ⟨_, rfl⟩
  have s1 : w1.heap.size = w.heap.size + 1 + 1 := by rw [hw1]; simp
  rw [← hw1] at hb1
  have bc_0 : w1.cell? ⟨w.heap.size, 0, none⟩ = some (.string x.1) := by rw [hw1]; simp [go_sem, World.cell?_alloc_past]
  have bd_0 : w1.cell? ⟨w.heap.size + 1, 0, none⟩ = some (.string y.1) := by rw [hw1]; simp [go_sem, World.cell?_alloc_past]
  have bc_1 : w1.cell? ⟨w.heap.size, 1, none⟩ = some (.int .i64 x.2.1) := by rw [hw1]; simp [go_sem, World.cell?_alloc_past]
  have bd_1 : w1.cell? ⟨w.heap.size + 1, 1, none⟩ = some (.int .i64 y.2.1) := by rw [hw1]; simp [go_sem, World.cell?_alloc_past]
  have bc_2 : w1.cell? ⟨w.heap.size, 2, none⟩ = some (.slice ub2 un2 uc2) := by rw [hw1]; simp [go_sem, World.cell?_alloc_past]
  have bd_2 : w1.cell? ⟨w.heap.size + 1, 2, none⟩ = some (.slice vb2 vn2 vc2) := by rw [hw1]; simp [go_sem, World.cell?_alloc_past]
  by_cases e0 : x.1 = y.1
  case neg =>
    have HE := Lib.hid (show decide (x = y) = false by simp only [decide_eq_false_iff_not]; intro h9; exact e0 (by rw [h9]))
    have hne := bytes_ne e0
    clear e0
    go_wp2_with fail
    go_ret
    exact ⟨ret_bool HE.out.symm, by first | exact hb1 | (rw [hw1] at hb1; exact hb1)⟩
  have E0 := Lib.hid e0
  have hq0 : (x.1.toList == y.1.toList) = true := by rw [e0]; simp
  clear e0
  by_cases e1 : x.2.1 = y.2.1
  case neg =>
    have HE := Lib.hid (show decide (x = y) = false by simp only [decide_eq_false_iff_not]; intro h9; exact e1 (by rw [h9]))
    have hne := bne_iff_ne.2 e1
    clear e1
    go_wp2_with fail
    go_ret
    exact ⟨ret_bool HE.out.symm, by first | exact hb1 | (rw [hw1] at hb1; exact hb1)⟩
  have E1 := Lib.hid e1
  have hq1 : (x.2.1 != y.2.1) = false := by rw [e1]; simp
  clear e1
  go_wp2_with fail
  rw [← hw1]
  clear hw1
  refine (eq_II _ _ (x.2.2) (y.2.2) _ (rII.mono g2 hb1) (rII.mono k2 hb1)).mono ?_
  rintro e w2 ⟨rfl, z2⟩
  have s2 := z2.size
  have hb2 := on hb1 z2
  replace bc_0 := (z2.cell (p := ⟨w.heap.size, 0, none⟩) (by simp only []; omega)).trans bc_0
  replace bd_0 := (z2.cell (p := ⟨w.heap.size + 1, 0, none⟩) (by simp only []; omega)).trans bd_0
  replace bc_1 := (z2.cell (p := ⟨w.heap.size, 1, none⟩) (by simp only []; omega)).trans bc_1
  replace bd_1 := (z2.cell (p := ⟨w.heap.size + 1, 1, none⟩) (by simp only []; omega)).trans bd_1
  replace bc_2 := (z2.cell (p := ⟨w.heap.size, 2, none⟩) (by simp only []; omega)).trans bc_2
  replace bd_2 := (z2.cell (p := ⟨w.heap.size + 1, 2, none⟩) (by simp only []; omega)).trans bd_2
  by_cases e2 : x.2.2 = y.2.2
  case neg =>
    have HE := Lib.hid (show decide (x = y) = false by simp only [decide_eq_false_iff_not]; intro h9; exact e2 (by rw [h9]))
    have hne : decide (x.2.2 = y.2.2) = false := by simpa using e2
    rw [hne]
    clear e2 hne
    go_wp2_with fail
    go_ret
    exact ⟨ret_bool HE.out.symm, hb2⟩
  have E2 := Lib.hid e2
  have hq2 : decide (x.2.2 = y.2.2) = true := by simpa using e2
  rw [hq2]
  clear e2 hq2
  have HE := Lib.hid (show decide (x = y) = true by simp only [decide_eq_true_eq]; exact Prod.ext E0.out (Prod.ext E1.out (E2.out)))
  go_wp2_with fail
  go_ret
  exact ⟨ret_bool HE.out.symm, hb2⟩

end Go.Proofs.YtkipgbgkhffkkaaGreat

/- The laws' marks. -/
namespace Go.Proofs.YtkipgbgkhffkkaaGreat
open Go.RowKit
set_option linter.unusedVariables false
set_option linter.unusedSimpArgs false

/-- The digits of k laid before some text. -/
def mdig : Nat → Nat → List UInt8 → List UInt8
  | 0, _, out => out
  | f + 1, k, out => if k = 0 then out else mdig f (k / 10) (UInt8.ofNat (48 + k % 10) :: out)
def mtext (k : Nat) : ByteArray := ⟨(109 :: mdig 20 k []).toArray⟩

theorem mdig_end {f : Nat} {out : List UInt8} : mdig f 0 out = out := by cases f <;> simp [mdig]

set_option maxHeartbeats 1000000 in
set_option maxRecDepth 100000 in
theorem markText_any (k : Nat) (w : World) (h0 : 0 < k) (hk : k ≤ 100000000000) :
    Calls Tryz.prog 94 #[.int .i64 k] w fun e w' => e = .returned (.string (mtext k)) ∧ Below w.heap.size w w' := by
  have hb0 : Below w.heap.size w w := Below.refl _ _
  go_enter Tryz.func94, Tryz.ntmps94
  go_wp2_with fail
  go_loopw [0, 3] (fun q s wr => ∃ (f i : Nat) (out : List UInt8), i < 10 ^ f ∧ i ≤ 100000000000 ∧ out.length + f ≤ 20 ∧ q = .int .i64 i ∧ s = .string ⟨out.toArray⟩ ∧ Hid (mdig 20 k [] = mdig f i out) ∧ Below w.heap.size w wr) (fun q _ _ => (intOf q).toNat)
  case atStart => exact ⟨20, k, [], by omega, hk, by simp, rfl, rfl, rfl, Below.refl _ _⟩
  case round =>
    obtain ⟨f, i, out, hif, hik, hof, rfl, rfl, hE, hdr⟩ := hrel
    by_cases hlt : 0 < i
    · obtain ⟨f, rfl⟩ : ∃ g, f = g + 1 := by cases f with
        | zero => simp at hif; omega
        | succ g => exact ⟨g, rfl⟩
      have HF := Lib.hid hif
      clear hif
      obtain ⟨c, hcc⟩ : ∃ c, c = UInt8.ofNat (48 + i % 10) := ⟨_, rfl⟩
      have hc2 : (c.toNat : Int) = 48 + (i : Int) % 10 := by
        have h9 : (48 + i % 10) < 256 := by omega
        rw [hcc, UInt8.toNat_ofNat', Nat.mod_eq_of_lt h9]; omega
      have hcv := run_convert_bytes_back (P := Tryz.prog) (wr.alloc (.cells #[Value.int .u8 (48 + (i : Int) % 10)] 5)) 56 9 5 ⟨wr.heap.size, 0, none⟩ 1 [c] Tryz.underlying56 Tryz.underlying5 Tryz.underlying9 (fun j hj => by
        obtain rfl : j = 0 := by simp at hj; exact hj
        rw [add_zero_addr, box_cell (i := 0) (Below.refl _ _) rfl, ← hc2]; rfl)
      simp only [List.length_cons, List.length_nil, Nat.zero_add] at hcv
      have HC := Lib.hid hcc
      clear hcc hc2
      go_wp2_with fail
      have HE := Lib.hid (show mdig 20 k [] = mdig f (i / 10) (c :: out) by rw [hE.out, mdig, if_neg (by omega), HC.out])
      have hp : i / 10 < 10 ^ f := by have h9 := HF.out; rw [Nat.pow_succ] at h9; omega
      clear hcv
      go_roundw
      case rel => exact ⟨f, i / 10, c :: out, hp, by omega, by simp at hof ⊢; omega, by go_num, by
        show Value.string _ = Value.string _
        congr 1 <;> (apply ByteArray.ext <;> simp), HE.out, hdr.trans ((Below.refl _ _).alloc hdr.size _)⟩
      case measure => simp [intOf]; omega
    · obtain rfl : i = 0 := by omega
      have HE := Lib.hid (show mtext k = ⟨(109 :: out).toArray⟩ by rw [mtext, hE.out, mdig_end])
      clear hif hE
      go_wp2_with fail
      go_ret
      refine ⟨?_, hdr⟩
      rw [HE.out]
      congr 2 <;> (apply ByteArray.ext <;> simp)
end Go.Proofs.YtkipgbgkhffkkaaGreat

/- Arguments of kind A opened. Written by a program. -/
namespace Go.Proofs.YtkipgbgkhffkkaaGreat
open Go.ChangeShapes Go.WideShapes Go.ChangeAt Go.RowKit
set_option linter.unusedVariables false
set_option maxRecDepth 100000

theorem opens_A : Opens 106 rA := opens_struct2 Tryz.underlying106 (by kernel_rfl) rfl rfl (by kernel_rfl) (by kernel_rfl) opens_str' opens_I
abbrev kA_in := agg_in rA
theorem open_kA_in {H : Type} {enc : TypeId × Value → H} {W : World} {d : DataW H} {ps : List MemPlace} {v : Value} (hv : Value.okWide Tryz.prog W .any 0 106 v) (h : DataW.Trod enc Tryz.prog W 0 (fun _ => true) true 106 v d ps) : kA_in W v :=
  open_agg_in Tryz.underlying106 opens_A hv h

end Go.Proofs.YtkipgbgkhffkkaaGreat

/- Arguments of kind II opened. Written by a program. -/
namespace Go.Proofs.YtkipgbgkhffkkaaGreat
open Go.ChangeShapes Go.WideShapes Go.ChangeAt Go.RowKit
set_option linter.unusedVariables false
set_option maxRecDepth 100000

theorem opens_II : Opens 47 rII := opens_slice Tryz.underlying47 (by kernel_rfl) (by decide) opens_I
def kII_in (w : World) (v : Value) : Prop := ∃ u xs, v = u ∧ rII.rep w [u] xs
theorem open_kII_in {H : Type} {enc : TypeId × Value → H} {W : World} {d : DataW H} {ps : List MemPlace} {v : Value} (hv : Value.okWide Tryz.prog W .any 0 47 v) (h : DataW.Trod enc Tryz.prog W 0 (fun _ => true) true 47 v d ps) : kII_in W v := by
  obtain ⟨a, l, c, rfl⟩ := okWide_slice Tryz.underlying47 hv
  obtain ⟨fuel, hf⟩ := h
  obtain ⟨xs, hx⟩ := opens_II H enc W fuel _ _ hf
  exact ⟨_, xs, rfl, by simpa [Value.cells] using hx⟩

end Go.Proofs.YtkipgbgkhffkkaaGreat

/- A region that draws its order, whose last operation waits for all the others. -/
namespace Go.Proofs.YtkipgbgkhffkkaaGreat
open Go.RowKit
set_option linter.unusedVariables false

/-- What is asked behind all but the last. -/
def LastQ (P : Program) (o : Oper) (Q : Exit → Act → World → Prop) : Exit → Act → World → Prop
  | .normal, a, w => Oper.wp P o a w (fun a' w' => Q .normal a' w') Q
  | e, a, w => Q e a w

theorem oper_wp_lastQ {P : Program} {Q : Exit → Act → World → Prop} {o l : Oper} {a : Act} {w : World} {K : Act → World → Prop} (h : o.wp P a w K (LastQ P l Q)) : o.wp P a w K Q := by
  unfold Oper.wp at *
  generalize (execOp a.eval o).run P w = r at *
  cases r with
  | ok n w' =>
    cases n <;> simp only [Oper.upon] at h ⊢ <;>
      first
        | exact h
        | exact Calls.mono h (fun e w'' he => by cases e <;> first | exact he | exact he)
        | exact Rows.mono h (fun _ _ he => he)
  | halt x w' => cases x <;> simp only [Oper.upon] at h ⊢ <;> exact h

/-- Edges backward, no guards, and the last waits for all. -/
structure LastOk (md : Region.Mode) (ops : Array Oper) (l : Oper) : Prop where
  op : ∀ i o, ops[i]? = some o → o.guard = none ∧ (∀ e ∈ o.after, e.on < i) ∧ ∃ e ∈ l.after, Region.binds md e = true ∧ e.on = i
  last : l.guard = none ∧ ∀ e ∈ l.after, e.on < ops.size
def lastOk (md : Region.Mode) (ops : Array Oper) (l : Oper) : Bool :=
  (List.range ops.size).all (fun i => match ops[i]? with
    | some o => o.guard.isNone && (o.after.toList.all (fun e => decide (e.on < i)) && l.after.toList.any (fun e => Region.binds md e && decide (e.on = i)))
    | none => true) && (l.guard.isNone && l.after.toList.all (fun e => decide (e.on < ops.size)))
theorem LastOk.of {md : Region.Mode} {ops : Array Oper} {l : Oper} (h : lastOk md ops l = true) : LastOk md ops l := by
  simp only [lastOk, Bool.and_eq_true, List.all_eq_true, List.mem_range] at h
  obtain ⟨h1, h2, h3⟩ := h
  refine ⟨fun i o ho => ?_, by simpa using h2, fun e he => by have := h3 e (Array.mem_toList_iff.2 he); simpa using this⟩
  have hlt : i < ops.size := (Array.getElem?_eq_some_iff.1 ho).1
  have h4 := h1 i hlt
  rw [ho] at h4
  simp only [Bool.and_eq_true, List.all_eq_true, List.any_eq_true, decide_eq_true_eq] at h4
  obtain ⟨h5, h6, e, he, h7, h8⟩ := h4
  exact ⟨by simpa using h5, fun e he => h6 e (Array.mem_toList_iff.2 he), e, Array.mem_toList_iff.1 he, h7, h8⟩

theorem getD_push_lt {L : Array Bool} {i : Nat} (d : Bool) (h : i < L.size) : (L.push false).getD i d = L.getD i d := by
  simp [Array.getElem?_push_lt, h]
theorem mem_ready_push {md : Region.Mode} {ops : Array Oper} {l : Oper} (hok : LastOk md ops l) {L : Array Bool} (hL : L.size = ops.size) {i : Nat} (hi : i < ops.size) :
    i ∈ Region.ready md (ops.push l) (L.push false) ↔ i ∈ Region.ready md ops L := by
  rw [mem_ready, mem_ready, getD_push_lt true (by omega), Array.getElem?_push_lt hi, Array.getElem?_eq_getElem hi]
  constructor
  · rintro ⟨h0, o, ho, h⟩
    refine ⟨h0, o, ho, fun e he hb => ?_⟩
    have := h e he hb
    rwa [getD_push_lt false (by have := (hok.op i o (by rw [Array.getElem?_eq_getElem hi]; exact ho)).2.1 e he; omega)] at this
  · rintro ⟨h0, o, ho, h⟩
    refine ⟨h0, o, ho, fun e he hb => ?_⟩
    rw [getD_push_lt false (by have := (hok.op i o (by rw [Array.getElem?_eq_getElem hi]; exact ho)).2.1 e he; omega)]
    exact h e he hb
theorem all_listed {md : Region.Mode} {ops : Array Oper} {l : Oper} (hok : LastOk md ops l) {L : Array Bool} (hL : L.size = ops.size) (hr : Region.ready md ops L = []) : ∀ i, i < ops.size → L.getD i true = true := by
  intro i
  induction i using Nat.strongRecOn with
  | _ i ih =>
    intro hi
    cases h : L.getD i true with
    | true => rfl
    | false =>
      have : i ∈ Region.ready md ops L := by
        rw [mem_ready]
        refine ⟨h, ops[i], Array.getElem?_eq_getElem hi, fun e he hb => ?_⟩
        have hlt := (hok.op i ops[i] (Array.getElem?_eq_getElem hi)).2.1 e he
        have := ih e.on hlt (by omega)
        have h9 : e.on < L.size := by omega
        simpa [h9] using this
      rw [hr] at this
      cases this

theorem mem_ready_last {md : Region.Mode} {ops : Array Oper} {l : Oper} (hok : LastOk md ops l) {L : Array Bool} (hL : L.size = ops.size) : ops.size ∈ Region.ready md (ops.push l) (L.push false) ↔ ∀ i, i < ops.size → L.getD i true = true := by
  rw [mem_ready]
  constructor
  · rintro ⟨_, o, ho, h⟩ i hi
    rw [Array.getElem?_push_size] at ho
    obtain rfl := Option.some.inj ho
    obtain ⟨e, he, hb, rfl⟩ := (hok.op i ops[i] (Array.getElem?_eq_getElem hi)).2.2
    have := h e he hb
    rw [getD_push_lt false (by omega)] at this
    have h9 : e.on < L.size := by omega
    simpa [h9] using this
  · intro h
    refine ⟨?_, l, Array.getElem?_push_size, fun e he hb => ?_⟩
    · rw [← hL]; simp
    · have h8 := hok.last.2 e he
      rw [getD_push_lt false (by omega)]
      have := h e.on h8
      have h9 : e.on < L.size := by omega
      simpa [h9] using this
theorem ready_full {md : Region.Mode} {ops : Array Oper} {L : Array Bool} (h : ∀ i, i < ops.size → L.getD i true = true) : Region.ready md ops L = [] := by
  apply List.eq_nil_iff_forall_not_mem.2
  intro i hi
  obtain ⟨h0, o, ho, _⟩ := mem_ready.1 hi
  rw [h i (Array.getElem?_eq_some_iff.1 ho).1] at h0
  cases h0

/-- A region, but for its last operation, with that behind it. -/
theorem wpAny_last {P : Program} {md : Region.Mode} {ops : Array Oper} {l : Oper} {Q : Exit → Act → World → Prop} (hok : LastOk md ops l) : ∀ (fuel : Nat) (L : Array Bool) (a : Act) (w : World), L.size = ops.size →
    wpAny P md ops (LastQ P l Q) fuel L a w → wpAny P md (ops.push l) Q (fuel + 1) (L.push false) a w := by
  have full : ∀ (fuel : Nat) (L : Array Bool) (a : Act) (w : World), L.size = ops.size → (∀ i, i < ops.size → L.getD i true = true) → Oper.wp P l a w (fun a' w' => Q .normal a' w') Q → wpAny P md (ops.push l) Q (fuel + 1) (L.push false) a w := by
    intro fuel L a w hL hall h
    have hin := (mem_ready_last hok hL).2 hall
    refine ⟨fun h0 => absurd (h0 ▸ hin) (by simp), fun i hi => ?_⟩
    have hin2 : i = ops.size := by
      obtain ⟨h0, o, ho, _⟩ := mem_ready.1 hi
      have hlt := (Array.getElem?_eq_some_iff.1 ho).1
      rw [Array.size_push] at hlt
      rcases Nat.lt_or_ge i ops.size with h9 | h9
      · rw [getD_push_lt true (by omega), hall i h9] at h0; cases h0
      · omega
    subst hin2
    have hset : (L.push false).setIfInBounds ops.size true = L.push true := by
      rw [← hL]
      apply Array.ext_getElem?
      intro j
      by_cases hij : L.size = j
      · subst hij
        simp
      · rw [Array.getElem?_setIfInBounds_ne hij, Array.getElem?_push, Array.getElem?_push]
        simp [Ne.symm hij]
    have hr0 : Region.ready md (ops.push l) (L.push true) = [] := by
      apply ready_full
      intro j hj
      rw [Array.size_push] at hj
      rcases Nat.lt_or_ge j ops.size with h9 | h9
      · have := hall j h9
        have h8 : j < L.size := by omega
        simpa [Array.getElem?_push_lt, h8] using this
      · have : j = L.size := by omega
        subst this; simp
    unfold wpOp
    rw [Array.getElem?_push_size]
    simp only []
    rw [if_pos (by simp [Region.wanted, hok.last.1]), hset]
    refine .inl (Oper.wp_mono (fun a' w' h9 => ?_) h)
    cases fuel with
    | zero => exact ⟨hr0, h9⟩
    | succ f => exact ⟨fun _ => h9, by rw [hr0]; simp⟩
  intro fuel
  induction fuel with
  | zero =>
    intro L a w hL h
    exact full 0 L a w hL (all_listed hok hL h.1) h.2
  | succ f ih =>
    intro L a w hL h
    by_cases hr : Region.ready md ops L = []
    · exact full (f + 1) L a w hL (all_listed hok hL hr) (h.1 hr)
    · refine ⟨fun h0 => ?_, fun i hi => ?_⟩
      · obtain ⟨i, hi⟩ := List.exists_mem_of_ne_nil _ hr
        have hlt : i < ops.size := by obtain ⟨_, o, ho, _⟩ := mem_ready.1 hi; exact (Array.getElem?_eq_some_iff.1 ho).1
        have := (mem_ready_push hok hL hlt).2 hi
        rw [h0] at this
        cases this
      · have hlt : i < ops.size := by
          obtain ⟨h0, o, ho, _⟩ := mem_ready.1 hi
          have h9 := (Array.getElem?_eq_some_iff.1 ho).1
          rw [Array.size_push] at h9
          rcases Nat.lt_or_ge i ops.size with h8 | h8
          · exact h8
          · have h7 : i = ops.size := by omega
            subst h7
            exact absurd (ready_full ((mem_ready_last hok hL).1 hi)) hr
        have h1 := h.2 i ((mem_ready_push hok hL hlt).1 hi)
        have hset : (L.push false).setIfInBounds i true = (L.setIfInBounds i true).push false := by
          have hLt : i < L.size := by omega
          apply Array.ext_getElem?
          intro j
          by_cases hij : i = j
          · subst hij
            simp [Array.getElem?_push, Array.getElem?_setIfInBounds, hLt, Nat.ne_of_lt hLt]
            try omega
          · rw [Array.getElem?_setIfInBounds_ne hij, Array.getElem?_push, Array.getElem?_push, Array.getElem?_setIfInBounds_ne hij]
            simp
        rw [hset]
        unfold wpOp at h1 ⊢
        rw [Array.getElem?_push_lt hlt]
        rw [Array.getElem?_eq_getElem hlt] at h1
        have hg := (hok.op i ops[i] (Array.getElem?_eq_getElem hlt)).1
        simp only [] at h1 ⊢
        rw [if_pos (by simp [Region.wanted, hg])] at h1 ⊢
        rcases h1 with h1 | ⟨h1, h2⟩
        · exact .inl (Oper.wp_mono (fun a' w' h9 => ih _ a' w' (by simp [hL]) h9) (oper_wp_lastQ h1))
        · exact .inr ⟨h1, h2⟩

/-- THE BEGINNING: S is asked behind every operation but the last. -/
theorem wp_region_lastH {P : Program} {id : Nat} {ops0 : Array Oper} {Q : Exit → Act → World → Prop} {a : Act} {w : World} (S : World → Prop) (ops : Array Oper) (l : Oper) (he : ops0 = ops.push l) (hm : P.follows .mixedOrders = true) (hok : lastOk .any ops l = true)
    (h : wpAnyH P .any ops (LastQ P l Q) S ops.size (Array.replicate ops.size false) a w.drew) : (Code.region id ops0 true).wp P Q a w := by
  subst he
  refine wp_region_any hm ?_
  have h1 := wpAny_last (LastOk.of hok) ops.size (Array.replicate ops.size false) a w.drew (by simp) (wpAny_of_held _ _ _ _ h)
  have h2 : (Array.replicate ops.size false).push false = Array.replicate (ops.push l).size false := by
    rw [Array.size_push, Array.replicate_succ]
  rw [h2] at h1
  rw [Array.size_push]
  rw [Array.size_push] at h1
  exact h1

theorem wp_region_lastP {P : Program} {id : Nat} {ops0 : Array Oper} {Q : Exit → Act → World → Prop} {a : Act} {w : World} (S : World → Prop) (k : Nat) {l : Oper} (hk : ops0.size = k + 1) (hl : ops0[k]? = some l) (hm : P.follows .mixedOrders = true) (hok : lastOk .any ops0.pop l = true) (hS : S w.drew)
    (h : S w.drew → ∀ ops, ops = ops0.pop → wpAnyH P .any ops (LastQ P l Q) S k (Array.replicate k false) a w.drew) : (Code.region id ops0 true).wp P Q a w := by
  have h1 := h hS ops0.pop rfl
  have hs : ops0.pop.size = k := by rw [Array.size_pop, hk]; rfl
  refine wp_region_lastH S ops0.pop l ?_ hm hok (by rw [hs]; exact h1)
  apply Array.ext_getElem?
  intro i
  rw [Array.getElem?_push]
  by_cases hi : i = ops0.pop.size
  · subst hi; rw [hs, hl]; simp
  · rw [if_neg hi, Array.getElem?_pop]
    by_cases h9 : i < ops0.size - 1
    · rw [if_pos h9]
    · rw [if_neg h9, Array.getElem?_eq_none (by omega)]

end Go.Proofs.YtkipgbgkhffkkaaGreat
