/- Texts joined for one claim: MarkG, ValidAn, ValidT, ColsOk, ValidQ, MaskP, ValidQI, ValidQS, MaskC, MaskV, MaskI. -/
import Derived.Test.YtbkoddikfpkocaaQ3b1e7e37cf
import Derived.Deep.RegionHeld3

/- The laws' marks: what they turn. -/
namespace Go.Proofs.Ytbkoddikfpkocaa
open Go.RowKit
set_option linter.unusedVariables false
set_option linter.unusedSimpArgs false

/-- Of the blocks that stood in w, at most those of fp have turned. -/
structure Alt (fp : List Nat) (w w' : World) : Prop where
  os : w'.os = w.os
  tape : w'.tape = w.tape
  output : w'.output = w.output
  size : w.heap.size ≤ w'.heap.size
  block : ∀ k, k < w.heap.size → k ∉ fp → w'.heap[k]? = w.heap[k]?
theorem Alt.refl (fp : List Nat) (w : World) : Alt fp w w := ⟨rfl, rfl, rfl, Nat.le_refl _, fun _ _ _ => rfl⟩
theorem Alt.trans {fp : List Nat} {a b c : World} (h : Alt fp a b) (k : Alt fp b c) : Alt fp a c :=
  ⟨k.os.trans h.os, k.tape.trans h.tape, k.output.trans h.output, Nat.le_trans h.size k.size, fun i hi hn => (k.block i (Nat.lt_of_lt_of_le hi h.size) hn).trans (h.block i hi hn)⟩
theorem Alt.mono {fp fq : List Nat} {w w' : World} (h : Alt fp w w') (hs : ∀ k ∈ fp, k ∈ fq) : Alt fq w w' :=
  ⟨h.os, h.tape, h.output, h.size, fun k hk hn => h.block k hk (fun hm => hn (hs k hm))⟩
theorem Alt.only {fp : List Nat} {w w' : World} (h : Only fp w w') : Alt fp w w' := ⟨h.os, h.tape, h.output, by rw [h.size]; exact Nat.le_refl _, fun k _ hn => h.block k hn⟩
theorem Alt.below {fp : List Nat} {w w' : World} (h : Below w.heap.size w w') : Alt fp w w' := ⟨h.os, h.tape, h.output, h.size, fun k hk _ => h.block k hk⟩
theorem Alt.set {fp : List Nat} {w : World} {p : Addr} (hp : p.block ∈ fp) (u : Value) : Alt fp w (w.setCell p u) :=
  ⟨rfl, rfl, rfl, by simp [World.setCell], fun k hk hn => Below.heap_setCell _ _ _ _ (fun e => hn (e ▸ hp))⟩
theorem Alt.turn {fp : List Nat} {lo hi : Nat} {w w' : World} (h : Alt fp w w') (hk : ∀ k ∈ fp, lo ≤ k ∧ k < hi) : Turn lo hi w w' :=
  ⟨h.os, h.tape, h.output, h.size, fun k h1 h2 => h.block k h1 (fun hm => by have := hk k hm; omega)⟩

/-- Marks laid one behind the other. -/
def mkL {α : Type} (m : Int → α → α) (c : α → Nat) : Int → List α → List α
  | _, [] => []
  | k, x :: t => m k x :: mkL m c (k + c x) t
theorem mkL_len {α : Type} (m : Int → α → α) (c : α → Nat) : ∀ (k : Int) (xs : List α), (mkL m c k xs).length = xs.length
  | _, [] => rfl
  | k, x :: t => by simp [mkL, mkL_len m c]
theorem mkL_get {α : Type} (m : Int → α → α) (c : α → Nat) : ∀ (k : Int) (xs : List α) (j : Nat) (x : α), xs[j]? = some x → (mkL m c k xs)[j]? = some (m (k + sumBy c (xs.take j)) x)
  | k, [], j, x, h => by simp at h
  | k, y :: t, 0, x, h => by simp at h; subst h; simp [mkL, sumBy]
  | k, y :: t, j + 1, x, h => by
    have := mkL_get m c (k + c y) t j x (by simpa using h)
    simp only [mkL, List.getElem?_cons_succ, this, List.take_succ_cons]
    congr 2
    simp [sumBy]; omega
/-- The first j are marked. -/
def mkLTo {α : Type} (m : Int → α → α) (c : α → Nat) (k : Int) (xs : List α) (j : Nat) : List α := (mkL m c k xs).take j ++ xs.drop j
theorem mkLTo_get {α : Type} (m : Int → α → α) (c : α → Nat) (k : Int) (xs : List α) (j : Nat) (x : α) (h : xs[j]? = some x) : (mkLTo m c k xs j)[j]? = some x := by
  have hj := (List.getElem?_eq_some_iff.1 h).1
  unfold mkLTo
  rw [List.getElem?_append_right (by simp [mkL_len]; omega), List.getElem?_drop]
  simp only [List.length_take, mkL_len]
  rw [show min j xs.length = j by omega, show j + (j - j) = j by omega]
  exact h
theorem mkLTo_step {α : Type} (m : Int → α → α) (c : α → Nat) (k : Int) (xs : List α) (j : Nat) (x : α) (h : xs[j]? = some x) : (mkLTo m c k xs j).set j (m (k + sumBy c (xs.take j)) x) = mkLTo m c k xs (j + 1) := by
  have hj := (List.getElem?_eq_some_iff.1 h).1
  unfold mkLTo
  rw [take_snoc' _ _ _ (mkL_get m c k xs j x h), List.set_append_right _ _ (by simp [mkL_len]; omega)]
  have e : xs.drop j = x :: xs.drop (j + 1) := by
    rw [List.drop_eq_getElem_cons hj]; congr 1; exact (List.getElem?_eq_some_iff.1 h).2
  rw [e]
  simp only [List.length_take, mkL_len]
  rw [show j - min j xs.length = 0 by omega]
  simp
theorem mkLTo_all {α : Type} (m : Int → α → α) (c : α → Nat) (k : Int) (xs : List α) {n : Nat} (h : xs.length = n) : mkLTo m c k xs n = mkL m c k xs := by
  subst h
  unfold mkLTo
  rw [List.take_of_length_le (by rw [mkL_len]; exact Nat.le_refl _)]
  simp
theorem mkLTo_zero {α : Type} (m : Int → α → α) (c : α → Nat) (k : Int) (xs : List α) : mkLTo m c k xs 0 = xs := by simp [mkLTo]

/-- One element of an owned slice, its cells in the slice's block. -/
theorem slice_at {α : Type} {t : TypeId} {o : OS α} {w : World} {a : Option Addr} {n cap : Nat} {xs : List α} {fp : List Nat} (h : (O.slice t o).rep w [.slice a n cap] xs fp) (hn : fp.Nodup) {i : Nat} {x : α} (hx : xs[i]? = some x) :
    ∃ g c f pre post E, a = some ⟨g, 0, none⟩ ∧ g ∈ fp ∧ g ∉ f ∧ g < w.heap.size ∧ o.rep w c x f ∧ f.Nodup ∧ (∀ k ∈ f, k ∈ fp) ∧ pre.length = i * o.size ∧ w.heap[g]? = some (.cells (pre ++ (c ++ post)).toArray E) ∧
      ∀ w' x' c', o.rep w' c' x' f → w'.heap[g]? = some (.cells (pre ++ (c' ++ post)).toArray E) → (∀ k ∈ fp, k ≠ g → k ∉ f → w'.heap[k]? = w.heap[k]?) → (O.slice t o).rep w' [.slice a n cap] (xs.set i x') fp := by
  have hlt := (O.slice t o).lt h
  obtain ⟨v, css, fps, hv, rfl, h1, h2⟩ := h
  simp at hv
  subst hv
  obtain ⟨c, f, hc, hf, hr⟩ := o.rows_get h2 i x hx
  have hnl := List.nodup_append.1 hn
  have hmem : ∀ k ∈ f, k ∈ fps.flatten := fun k hk => List.mem_flatten.2 ⟨f, List.mem_of_getElem? hf, hk⟩
  have hsub : f.Sublist fps.flatten := List.sublist_flatten_of_mem (List.mem_of_getElem? hf)
  have hix := (List.getElem?_eq_some_iff.1 hx).1
  have hic := (List.getElem?_eq_some_iff.1 hc).1
  rcases h1.2 with ⟨hv, h0⟩ | ⟨g, cap', cur, hv, hB, hg, hnc, hcm, hcs, htake⟩
  · omega
  simp at hv
  obtain ⟨rfl, rfl, rfl⟩ := hv
  have hcl := o.len hr
  have hgf : g ∉ f := fun hm => hnl.2.2 g (by simp [bl, Value.ownBlock]) g (hmem g hm) rfl
  have hsplit : css = css.take i ++ c :: css.drop (i + 1) := by
    conv => lhs; rw [← List.take_append_drop i css]
    rw [List.drop_eq_getElem_cons hic]
    congr 2
    exact (List.getElem?_eq_some_iff.1 hc).2
  have hpre : ((css.take i).flatten).length = i * o.size := by
    have hr2 : o.rows w (css.take i) (xs.take i) (fps.take i) := by
      have : ∀ {css : List (List Value)} {xs : List α} {fps : List (List Nat)} (h : o.rows w css xs fps) (i : Nat), o.rows w (css.take i) (xs.take i) (fps.take i) := by
        intro css
        induction css with
        | nil => intro xs fps h i; match xs, fps, h with
          | [], [], _ => simp [OS.rows]
        | cons c cs ih => intro xs fps h i; match xs, fps, h with
          | y :: ys, p :: ps, h => cases i with
            | zero => simp [OS.rows]
            | succ i => simp only [List.take_succ_cons]; exact ⟨h.1, ih h.2 i⟩
      exact this h2 i
    rw [(o.rows_len hr2).2.2, List.length_take, Nat.min_eq_left (by omega)]
  refine ⟨g, c, f, (css.take i).flatten, (css.drop (i + 1)).flatten ++ cur.toList.drop (xs.length * o.size), t, rfl, by simp [bl, Value.ownBlock], hgf, hlt g (by simp [bl, Value.ownBlock]), hr, hsub.nodup hnl.2.1, fun k hk => List.mem_append_right _ (hmem k hk), hpre, ?_, ?_⟩
  · rw [hg]
    congr 2
    apply Array.ext'
    simp only []
    conv => lhs; rw [← List.take_append_drop (xs.length * o.size) cur.toList, htake, hsplit]
    simp
  · intro w' x' c' hr' hg' hk
    have hcl' := o.len hr'
    have hsp' : css.set i c' = css.take i ++ c' :: css.drop (i + 1) := by
      rw [List.set_eq_take_append_cons_drop, if_pos hic]
    refine ⟨_, css.set i c', fps, rfl, rfl, ?_, ?_⟩
    · refine ⟨?_, .inr ⟨g, cap, _, by rw [List.length_set], hB, hg', by rw [List.length_set]; exact hnc, hcm, ?_, ?_⟩⟩
      · have h9 := h1.1
        rw [hsplit] at h9
        rw [hsp', List.length_set]
        simp only [List.flatten_append, List.flatten_cons, List.length_append] at h9 ⊢
        omega
      · have h9 := h1.1
        rw [hsplit] at h9
        simp only [List.flatten_append, List.flatten_cons, List.length_append] at h9
        have h8 := Nat.mul_le_mul_right o.size hnc
        simp only [List.size_toArray, List.length_append, List.length_drop, Array.length_toList]
        omega
      · have h9 := h1.1
        rw [hsplit] at h9
        simp only [List.flatten_append, List.flatten_cons, List.length_append] at h9
        rw [List.length_set, hsp']
        simp only [List.flatten_append, List.flatten_cons]
        rw [show (css.take i).flatten ++ (c' ++ ((css.drop (i + 1)).flatten ++ cur.toList.drop (xs.length * o.size))) = ((css.take i).flatten ++ (c' ++ (css.drop (i + 1)).flatten)) ++ cur.toList.drop (xs.length * o.size) by simp]
        rw [List.take_append_of_le_length (by simp only [List.length_append]; omega), List.take_of_length_le (by simp only [List.length_append]; omega)]
    · have key : ∀ {css : List (List Value)} {xs : List α} {fps : List (List Nat)} (h : o.rows w css xs fps) (i : Nat), fps[i]? = some f → fps.flatten.Nodup → (∀ k ∈ fps.flatten, k ∉ f → w'.heap[k]? = w.heap[k]?) → o.rows w' (css.set i c') (xs.set i x') fps := by
        intro css
        induction css with
        | nil => intro xs fps h i hf hn hk; match xs, fps, h with
          | [], [], _ => simp at hf
        | cons c cs ih => intro xs fps h i hf hn hk; match xs, fps, h with
          | y :: ys, p :: ps, h =>
            simp only [List.flatten_cons] at hn hk
            have hn' := List.nodup_append.1 hn
            cases i with
            | zero =>
              simp at hf; subst hf
              exact ⟨hr', o.rows_frame h.2 (fun k hm => hk k (List.mem_append_right _ hm) (fun hq => hn'.2.2 k hq k hm rfl))⟩
            | succ i =>
              simp only [List.getElem?_cons_succ] at hf
              have hin : ∀ k ∈ f, k ∈ ps.flatten := fun k hk => List.mem_flatten.2 ⟨f, List.mem_of_getElem? hf, hk⟩
              exact ⟨o.frame h.1 (fun k hm => hk k (List.mem_append_left _ hm) (fun hq => hn'.2.2 k hm k (hin k hq) rfl)), ih h.2 i hf hn'.2.1 (fun k hm hq => hk k (List.mem_append_right _ hm) hq)⟩
      refine key h2 i hf hnl.2.1 (fun k hm hq => hk k (List.mem_append_right _ hm) (fun e => ?_) hq)
      subst e
      exact hnl.2.2 k (by simp [bl, Value.ownBlock]) k hm rfl
theorem oS_len {α : Type} {t : TypeId} {o : OS α} {w : World} {cs : List Value} {xs : List α} {fp : List Nat} (h : (O.slice t o).rep w cs xs fp) : ∃ a cap, cs = [.slice a xs.length cap] := by
  obtain ⟨v, css, fps, rfl, _, h1, _⟩ := h
  obtain ⟨a, cap, rfl, _⟩ := own_form h1
  exact ⟨a, cap, rfl⟩
theorem oS_len1 {α : Type} {t : TypeId} {o : OS α} {w : World} {a : Option Addr} {n cap : Nat} {xs : List α} {fp : List Nat} (h : (O.slice t o).rep w [.slice a n cap] xs fp) : xs.length = n := by
  obtain ⟨a, cap, hv⟩ := oS_len h
  simp at hv
  exact hv.2.1.symm
theorem sumBy_le {α : Type} (f : α → Nat) {xs : List α} {j : Nat} {x : α} (h : xs[j]? = some x) : sumBy f (xs.take j) + f x ≤ sumBy f xs := by
  have h9 : sumBy f xs = sumBy f (xs.take j) + sumBy f (xs.drop j) := by
    conv => lhs; rw [← List.take_append_drop j xs]
    simp only [sumBy, List.map_append, List.sum_append]
  have h8 := sumBy_drop f h
  omega
theorem mdig_len : ∀ (f k : Nat) (out : List UInt8), (mdig f k out).length ≤ f + out.length
  | 0, _, out => by simp [mdig]
  | f + 1, k, out => by
    rw [mdig]; split
    · omega
    · have := mdig_len f (k / 10) (UInt8.ofNat (48 + k % 10) :: out); simp only [List.length_cons] at this; omega
theorem mtext_size (k : Nat) (h : k ≤ 1000000000000) : (mtext k).size ≤ 9223372036854775807 := by
  have h1 := mdig_len 20 k []
  have h2 : (mtext k).size = (mdig 20 k []).length + 1 := rfl
  rw [h2]
  simp at h1
  omega
theorem markText_int (k : Int) (w : World) (h0 : 0 < k) (hk : k ≤ 100000000000) :
    Calls Try.prog 131 #[.int .i64 k] w fun e w' => e = .returned (.string (mtext k.toNat)) ∧ Below w.heap.size w w' := by
  obtain ⟨m, rfl⟩ := Int.eq_ofNat_of_zero_le (show 0 ≤ k by omega)
  exact markText_any m w (by omega) (by omega)

theorem sumBy_two {α : Type} {c b : α → Nat} (h : ∀ x, c x ≤ 2 * (1 + b x)) : ∀ (xs : List α), sumBy c xs ≤ 2 * (xs.length + sumBy b xs)
  | [] => by simp [sumBy]
  | x :: t => by
    have h1 := sumBy_two h t
    have h2 := h x
    simp only [sumBy, List.map_cons, List.sum_cons, List.length_cons] at h1 ⊢
    omega
theorem cntSS_le (xss : List (List Int)) : cntSS xss ≤ sumBy bulk_I xss := Nat.le_of_eq rfl
def cnt_II (xss : List (List Int)) : Nat := cntSS xss
def mk_II (k : Int) (xss : List (List Int)) : List (List Int) := mkSS k xss
theorem cnt_le_II (xss : List (List Int)) : cnt_II xss ≤ 2 * bulk_II xss := by
  have := cntSS_le xss
  unfold cnt_II bulk_II; omega

theorem at_cell {w : World} {g p : Nat} {pre c post : List Value} {E : TypeId} (h : w.heap[g]? = some (.cells (pre ++ (c ++ post)).toArray E)) (hp : pre.length = p) {j : Nat} {u : Value} (hu : c[j]? = some u) : w.cell? ⟨g, p + j, none⟩ = some u := by
  have hj := (List.getElem?_eq_some_iff.1 hu).1
  simp only [World.cell?, h]
  simp only [Option.isSome_none, Bool.false_eq_true, if_false]
  rw [List.getElem?_toArray, List.getElem?_append_right (by omega), List.getElem?_append_left (by omega), show p + j - pre.length = j by omega]
  exact hu
theorem at_frozen {w : World} {g : Nat} {cs : Array Value} {E : TypeId} (h : w.heap[g]? = some (.cells cs E)) (i : Nat) : w.frozen? ⟨g, i, none⟩ = false := by simp [World.frozen?, h]
theorem at_set {w : World} {g p : Nat} {pre c post : List Value} {E : TypeId} (h : w.heap[g]? = some (.cells (pre ++ (c ++ post)).toArray E)) (hp : pre.length = p) {j : Nat} (hj : j < c.length) (u : Value) : (w.setCell ⟨g, p + j, none⟩ u).heap[g]? = some (.cells (pre ++ (c.set j u ++ post)).toArray E) := by
  rw [heap_setCell_same w g _ _ E u h]
  congr 2
  apply Array.ext'
  simp only [Array.toList_setIfInBounds]
  rw [List.set_append_right _ _ (by omega), List.set_append_left _ _ (by omega), show p + j - pre.length = j by omega]
end Go.Proofs.Ytbkoddikfpkocaa

/- Contracts: whether an answer is valid. -/
namespace Go.Proofs.Ytbkoddikfpkocaa
open Go.RowKit
set_option linter.unusedVariables false
set_option linter.unusedSimpArgs false
set_option synthInstance.maxSize 2000
set_option synthInstance.maxHeartbeats 400000

/-- Columns: in range, ascending from p. -/
def colsFrom (n p : Int) : List Int → Bool
  | [] => true
  | v :: t => betw v 0 (n - 1) && decide (p < v) && colsFrom n v t
/-- Strictly ascending columns of so many. -/
def colsB (n : Int) (xs : List Int) : Bool := colsFrom n (-1) xs
theorem cols_at {n p : Int} {xs : List Int} {j : Nat} {x : Int} (hj : j < xs.length) (hx : xs.getD j 0 = x) : colsFrom n p (xs.drop j) = (betw x 0 (n - 1) && decide (p < x) && colsFrom n x (xs.drop (j + 1))) := by
  rw [drop_cons xs j hj, hx]; rfl
theorem cols_end {n p : Int} {xs : List Int} {j : Nat} (hj : xs.length ≤ j) : colsFrom n p (xs.drop j) = true := by
  rw [List.drop_eq_nil_of_le hj]; rfl
theorem betw_pos {x n : Int} (h : betw x 0 n = true) : 0 ≤ x := by
  simp only [betw, Bool.and_eq_true, decide_eq_true_eq] at h; omega
/-- What stands before place j. -/
def prevOf (xs : List Int) : Nat → Int
  | 0 => -1
  | j + 1 => xs.getD j 0
/-- Whether an answer is valid. -/
def validAn (a : DAn) : Bool := colsB 4 a.1 && rowsB a.1.length a.2 && ascB a.2

end Go.Proofs.Ytbkoddikfpkocaa

/- Contracts: whether a table is valid. -/
namespace Go.Proofs.Ytbkoddikfpkocaa
open Go.RowKit
set_option linter.unusedVariables false
set_option linter.unusedSimpArgs false
set_option synthInstance.maxSize 2000
set_option synthInstance.maxHeartbeats 400000

/-- Whether a table is valid. -/
def validT (t : DT) : Bool := nameB t.1 && (betw t.2.1 1 3 && (decide (t.2.2.length ≤ 8) && (rowsB t.2.1 t.2.2 && ascB t.2.2)))
theorem validT_rows {t : DT} (h : rowsB t.2.1 t.2.2 = false) : validT t = false := by simp [validT, h]
theorem validT_rest {t : DT} (h : rowsB t.2.1 t.2.2 = true) : validT t = (nameB t.1 && (betw t.2.1 1 3 && (decide (t.2.2.length ≤ 8) && ascB t.2.2))) := by simp [validT, h]

set_option maxHeartbeats 2000000 in
theorem validT_impl (cs : List Value) (x : DT) (w : World) (h : rT.rep w cs x) :
    Calls Try.prog 137 #[.agg cs.toArray] w fun e w' => e = .returned (.bool (validT x)) ∧ Below w.heap.size w w' := by
  obtain ⟨ub, un, uc, rfl, hs, hi, g1⟩ := rT_open h
  clear h
  obtain ⟨s, i, rows⟩ := x
  simp only at hs hi g1
  have t1 := rS_sl g1
  have hl1 := t1.len
  have hn1 := t1.small
  have HV := Lib.hid (show rowsB i rows = rowsB i (rows.drop 0) by simp)
  have hb0 : Below w.heap.size w w := Below.refl _ _
  go_enter Try.func137, Try.ntmps137
  obtain ⟨w1, hw1⟩ : ∃ W, W = w.alloc (.cells #[.string s, .int .i64 i, .slice ub un uc] 34) := ⟨_, rfl⟩
  have z1 : Below w.heap.size w w1 := by rw [hw1]; exact (Below.refl _ _).alloc (Nat.le_refl _) _
  have s1 : w1.heap.size = w.heap.size + 1 := by rw [hw1]; simp
  have hb1 := on hb0 z1
  have b_0 : w1.cell? ⟨w.heap.size, 0, none⟩ = some (.string s) := by rw [hw1]; exact box_cell (Below.refl _ _) rfl
  have b_1 : w1.cell? ⟨w.heap.size, 1, none⟩ = some (.int .i64 i) := by rw [hw1]; exact box_cell (Below.refl _ _) rfl
  have b_2 : w1.cell? ⟨w.heap.size, 2, none⟩ = some (.slice ub un uc) := by rw [hw1]; exact box_cell (Below.refl _ _) rfl
  have raw1_b_0 := b_0
  have raw1_b_1 := b_1
  have raw1_b_2 := b_2
  rw [hw1] at raw1_b_0 raw1_b_1 raw1_b_2
  go_wp2_with fail
  rw [← hw1]
  clear hw1
  clear raw1_b_0 raw1_b_1 raw1_b_2
  go_loopw [8] (fun k wr => ∃ j : Nat, j ≤ un ∧ k = .int .i64 j ∧ Hid (rowsB i rows = rowsB i (rows.drop j)) ∧ w1 = wr) (fun k _ => un - (intOf k).toNat)
  case atStart => exact ⟨0, Nat.zero_le _, rfl, HV.out, rfl⟩
  case round =>
    obtain ⟨j, hj, rfl, hE, rfl⟩ := hrel
    by_cases hlt : j < un
    · obtain ⟨b0, o0, r1, m1, q1, y, rfl, hc, hx, hi9, _⟩ := t1.row hlt
      have hclt : b0 < w.heap.size := cell_lt hc
      have c0 : w1.cell? ⟨b0, o0 + j, none⟩ = some (.slice r1 m1 q1) := (hb1.cell (p := ⟨b0, o0 + j, none⟩) hclt).trans hc
      have hcall := rowOk_any r1 m1 q1 y i _ (hi9.below hb1)
      obtain ⟨t, ht⟩ : ∃ t, t = rowB y i := ⟨_, rfl⟩
      rw [← ht] at hcall
      have HC := Lib.hid hcall
      have HA := Lib.hid (hE.out.trans (by rw [rowsB_at hx.out, ← ht]))
      clear t1 hl1 hx hcall ht hE HV hi9 hc
      go_wp2_with fail
      refine (HC.out).mono ?_
      rintro e w' ⟨rfl, rfl⟩
      cases t with
      | true =>
        have HE := Lib.hid (show rowsB i rows = rowsB i (rows.drop (j + 1)) by rw [HA.out]; simp)
        go_wp2_with fail
        go_roundw
        case rel => exact ⟨j + 1, by omega, by go_num, HE.out, trivial⟩
        case measure => simp [intOf]; omega
      | false =>
        have HE := Lib.hid (show validT (s, i, rows) = false from validT_rows (by rw [HA.out]; simp))
        go_wp2_with fail
        go_ret
        exact ⟨ret_bool HE.out.symm, hb1⟩
    · have HE : Hid (validT (s, i, rows) = (nameB s && (betw i 1 3 && (decide ((un : Int) ≤ 8) && ascB rows)))) := Lib.hid (by
        rw [validT_rest (show rowsB i rows = true by rw [hE.out, rowsB_end (by omega)])]
        simp only [hl1]
        congr 3
        rw [Bool.eq_iff_iff]; simp only [decide_eq_true_eq]; omega)
      have t2 := t1.below hb1
      clear hE HV hl1 t1
      go_wp2_with fail
      refine (nameOk_any _ _ hs).mono ?_
      rintro e w' ⟨rfl, rfl⟩
      obtain ⟨c1, hc1⟩ : ∃ c, c = nameB s := ⟨_, rfl⟩
      rw [← hc1] at HE ⊢
      clear hc1
      cases c1 with
      | false =>
        clear t2
        go_wp2_with fail
        go_ret
        exact ⟨ret_bool (by rw [HE.out]; rfl), hb1⟩
      | true =>
        go_wp2_with fail
        refine (within_any _ _ _ _).mono ?_
        rintro e w' ⟨rfl, rfl⟩
        obtain ⟨c2, hc2⟩ : ∃ c, c = betw i 1 3 := ⟨_, rfl⟩
        rw [← hc2] at HE ⊢
        clear hc2
        cases c2 with
        | false =>
          clear t2
          go_wp2_with fail
          go_ret
          exact ⟨ret_bool (by rw [HE.out]; rfl), hb1⟩
        | true =>
          by_cases h8 : (un : Int) ≤ 8
          · have HE2 := Lib.hid (show validT (s, i, rows) = ascB rows by rw [HE.out, decide_eq_true h8]; rfl)
            go_wp2_with fail
            refine (ascending_any _ _ _ _ _ t2).mono ?_
            rintro e w9 ⟨rfl, z9⟩
            replace z9 : Below w1.heap.size w1 w9 := z9.below _
            have s2 := z9.size
            have hb2 := on hb1 z9
            replace b_0 := (z9.cell (p := ⟨w.heap.size, 0, none⟩) (by simp only []; omega)).trans b_0
            replace b_1 := (z9.cell (p := ⟨w.heap.size, 1, none⟩) (by simp only []; omega)).trans b_1
            replace b_2 := (z9.cell (p := ⟨w.heap.size, 2, none⟩) (by simp only []; omega)).trans b_2
            clear t2
            go_wp2_with fail
            go_ret
            exact ⟨ret_bool HE2.out.symm, hb2⟩
          · have HE2 := Lib.hid (show validT (s, i, rows) = false by rw [HE.out, decide_eq_false h8]; rfl)
            clear t2
            go_wp2_with fail
            go_ret
            exact ⟨ret_bool HE2.out.symm, hb1⟩

set_option maxHeartbeats 2000000 in
theorem validT_spec (cs : List Value) (x : DT) (w : World) (h : rT.rep w cs x) :
    Calls Try.prog 27 #[.agg cs.toArray] w fun e w' => e = .returned (.bool (validT x)) ∧ Below w.heap.size w w' := by
  obtain ⟨ub, un, uc, rfl, hs, hi, g1⟩ := rT_open h
  clear h
  obtain ⟨s, i, rows⟩ := x
  simp only at hs hi g1
  have t1 := rS_sl g1
  have hl1 := t1.len
  have hn1 := t1.small
  have HV : Hid (validT (s, i, rows) = (nameB s && (betw i 1 3 && (decide ((un : Int) ≤ 8) && (rowsB i rows && ascB rows))))) := Lib.hid (by
    simp only [validT, hl1]
    congr 3
    rw [Bool.eq_iff_iff]; simp only [decide_eq_true_eq]; omega)
  have hb0 : Below w.heap.size w w := Below.refl _ _
  go_enter Try.func27, Try.ntmps27
  obtain ⟨w1, hw1⟩ : ∃ W, W = w.alloc (.cells #[.string s, .int .i64 i, .slice ub un uc] 34) := ⟨_, rfl⟩
  have z1 : Below w.heap.size w w1 := by rw [hw1]; exact (Below.refl _ _).alloc (Nat.le_refl _) _
  have s1 : w1.heap.size = w.heap.size + 1 := by rw [hw1]; simp
  have hb1 := on hb0 z1
  have b_0 : w1.cell? ⟨w.heap.size, 0, none⟩ = some (.string s) := by rw [hw1]; exact box_cell (Below.refl _ _) rfl
  have b_1 : w1.cell? ⟨w.heap.size, 1, none⟩ = some (.int .i64 i) := by rw [hw1]; exact box_cell (Below.refl _ _) rfl
  have b_2 : w1.cell? ⟨w.heap.size, 2, none⟩ = some (.slice ub un uc) := by rw [hw1]; exact box_cell (Below.refl _ _) rfl
  have raw1_b_0 := b_0
  have raw1_b_1 := b_1
  have raw1_b_2 := b_2
  rw [hw1] at raw1_b_0 raw1_b_1 raw1_b_2
  go_wp2_with fail
  rw [← hw1]
  clear hw1
  clear raw1_b_0 raw1_b_1 raw1_b_2
  refine (l4Name_any _ _ hs).mono ?_
  rintro e w' ⟨rfl, rfl⟩
  obtain ⟨c1, hc1⟩ : ∃ c, c = nameB s := ⟨_, rfl⟩
  rw [← hc1] at HV ⊢
  clear hc1
  cases c1 with
  | false =>
    clear t1 hl1
    go_wp2_with fail
    go_ret
    exact ⟨ret_bool (by rw [HV.out]; rfl), hb1⟩
  | true =>
    go_wp2_with fail
    refine (l1In_any _ _ _ _).mono ?_
    rintro e w' ⟨rfl, rfl⟩
    obtain ⟨c2, hc2⟩ : ∃ c, c = betw i 1 3 := ⟨_, rfl⟩
    rw [← hc2] at HV ⊢
    clear hc2
    cases c2 with
    | false =>
      clear t1 hl1
      go_wp2_with fail
      go_ret
      exact ⟨ret_bool (by rw [HV.out]; rfl), hb1⟩
    | true =>
      by_cases h8 : (un : Int) ≤ 8
      case neg =>
        have HE2 := Lib.hid (show validT (s, i, rows) = false by rw [HV.out, decide_eq_false h8]; rfl)
        have h8' : 8 < (un : Int) := by omega
        clear t1 hl1
        go_wp2_with fail
        go_ret
        exact ⟨ret_bool HE2.out.symm, hb1⟩
      have HW : Hid (validT (s, i, rows) = (rowsB i (rows.drop 0) && ascB (rows.drop (0 - 1)))) := Lib.hid (by rw [HV.out, decide_eq_true h8]; rfl)
      have h8' : ¬ 8 < (un : Int) := by omega
      go_wp2_with fail
      go_loopw [3] (fun k wr => ∃ j : Nat, j ≤ un ∧ k = .int .i64 j ∧ Hid (validT (s, i, rows) = (rowsB i (rows.drop j) && ascB (rows.drop (j - 1)))) ∧ Drew w1 wr) (fun k _ => un - (intOf k).toNat)
      case atStart => exact ⟨0, Nat.zero_le _, rfl, HW.out, Drew.refl _⟩
      case round =>
        obtain ⟨j, hj, rfl, hE, hdr⟩ := hrel
        have hlc := hdr
        replace hdr : Below w1.heap.size w1 wr := hdr.below _
        have s2 := hdr.size
        have hb2 := on hb1 hdr
        replace b_0 := (hdr.cell (p := ⟨w.heap.size, 0, none⟩) (by simp only []; omega)).trans b_0
        replace b_1 := (hdr.cell (p := ⟨w.heap.size, 1, none⟩) (by simp only []; omega)).trans b_1
        replace b_2 := (hdr.cell (p := ⟨w.heap.size, 2, none⟩) (by simp only []; omega)).trans b_2
        by_cases hlt : j < un
        · obtain ⟨b0, o0, r1, m1, q1, y, rfl, hc, hx, hi9, _⟩ := t1.row hlt
          have hclt : b0 < w.heap.size := cell_lt hc
          have c0 : wr.cell? ⟨b0, o0 + j, none⟩ = some (.slice r1 m1 q1) := (hb2.cell (p := ⟨b0, o0 + j, none⟩) hclt).trans hc
          have hcall := fun q => l4Row_any r1 m1 q1 y i (wr.drewN q) ((hi9.below hb2).drewN q)
          obtain ⟨t, ht⟩ : ∃ t, t = rowB y i := ⟨_, rfl⟩
          rw [← ht] at hcall
          have HC := Lib.hid hcall
          have HA := Lib.hid (hE.out.trans (by rw [rowsB_at hx.out, ← ht]))
          clear hcall ht hE HW HV
          cases t with
          | false =>
            have HE := Lib.hid (show validT (s, i, rows) = false by rw [HA.out]; simp)
            clear t1 hl1 hx hi9 hc
            go_wp2_with fail
            go_quiet ((go_at_call 103; exact quiet_same (HC.out _)))
            go_wp2_with fail
            go_ret
            exact ⟨ret_bool HE.out.symm, onD hb2 ⟨_, rfl⟩⟩
          | true =>
            by_cases hj0 : j = 0
            · subst hj0
              have HE := Lib.hid (show validT (s, i, rows) = (rowsB i (rows.drop (0 + 1)) && ascB (rows.drop (0 + 1 - 1))) by rw [HA.out]; simp)
              have c0' : wr.cell? ⟨b0, o0, none⟩ = some (.slice r1 m1 q1) := c0
              clear t1 hl1 hx hi9 hc
              go_wp2_with fail
              go_quiet ((go_at_call 103; exact quiet_same (HC.out _)))
              go_wp2_with fail
              go_roundw
              case rel => exact ⟨1, by omega, rfl, HE.out, hlc.step _⟩
              case measure => simp [intOf]; omega
            obtain ⟨i', rfl⟩ : ∃ i, j = i + 1 := ⟨j - 1, by omega⟩
            obtain ⟨b9, o9, r2, m2, q2, z, hb9, hcy, hy, hi', _⟩ := t1.row (show i' < un by omega)
            simp at hb9
            obtain ⟨rfl, rfl⟩ := hb9
            have cy : wr.cell? ⟨b0, o0 + i', none⟩ = some (.slice r2 m2 q2) := (hb2.cell (p := ⟨b0, o0 + i', none⟩) hclt).trans hcy
            have hi63 : IntKind.i64.wrap (i' : Int) = (i' : Int) := IntWalk.i64_in _ (by omega)
            have hcall := fun q => cmp_spec r2 r1 m2 m1 q2 q1 z y (wr.drewN q) ((hi'.below hb2).drewN q) ((hi9.below hb2).drewN q)
            obtain ⟨c, hcc⟩ : ∃ c, c = cmpRows z y := ⟨_, rfl⟩
            rw [← hcc] at hcall
            have HA2 : Hid (validT (s, i, rows) = (rowsB i (rows.drop (i' + 1 + 1)) && (decide (c < 0) && ascB (rows.drop (i' + 1))))) := Lib.hid (by
              rw [HA.out, show i' + 1 - 1 = i' by omega, ascB_at hy.out hx.out, hcc]; rfl)
            have HD := Lib.hid hcall
            clear t1 hl1 hx hy hi9 hi' hc hcy hcall hcc HA hj0
            by_cases h0 : c < 0
            · have HE := Lib.hid (show validT (s, i, rows) = (rowsB i (rows.drop (i' + 1 + 1)) && ascB (rows.drop (i' + 1 + 1 - 1))) by rw [HA2.out, decide_eq_true h0]; simp)
              go_wp2_with fail
              go_quiet ((first | (go_at_call 103; exact quiet_same (HC.out _)) | (go_at_call 104; exact quiet_drew (HD.out _))))
              clear hi63
              go_wp2_with fail
              go_roundw
              case rel => exact ⟨i' + 1 + 1, by omega, by go_num, HE.out, hlc.step _⟩
              case measure => simp [intOf]; omega
            · have HE := Lib.hid (show validT (s, i, rows) = false by rw [HA2.out]; simp [h0])
              go_wp2_with fail
              go_quiet ((first | (go_at_call 103; exact quiet_same (HC.out _)) | (go_at_call 104; exact quiet_drew (HD.out _))))
              clear hi63
              go_wp2_with fail
              go_ret
              exact ⟨ret_bool HE.out.symm, onD hb2 ⟨_, rfl⟩⟩
        · have HE : Hid (validT (s, i, rows) = true) := Lib.hid (by
            rw [hE.out, rowsB_end (by omega), ascB_end (by omega)]; rfl)
          clear hE HW hl1 t1
          go_wp2_with fail
          go_ret
          exact ⟨ret_bool HE.out.symm, hb2⟩

end Go.Proofs.Ytbkoddikfpkocaa

/- Contracts: columns that are strictly ascending columns of a table. -/
namespace Go.Proofs.Ytbkoddikfpkocaa
open Go.RowKit
set_option linter.unusedVariables false
set_option linter.unusedSimpArgs false
set_option synthInstance.maxSize 2000
set_option synthInstance.maxHeartbeats 400000

set_option maxHeartbeats 2000000 in
theorem columnsOk_any (a : Option Addr) (n cap : Nat) (xs : List Int) (m : Int) (w : World) (h : Ints w a n xs) (hm : I64 m) (hm1 : -9223372036854775808 < m) :
    Calls Try.prog 138 #[.slice a n cap, .int .i64 m] w fun e w' => e = .returned (.bool (colsB m xs)) ∧ w = w' := by
  have hl := h.len
  have hn := h.small
  have HV : Hid (colsB m xs = colsFrom m (prevOf xs 0) (xs.drop 0)) := Lib.hid (by simp [colsB, prevOf])
  obtain ⟨hm2, hm3⟩ := hm
  have hwm : IntKind.i64.wrap (m - 1) = m - 1 := IntWalk.i64_in _ (by omega)
  have hb0 : Below w.heap.size w w := Below.refl _ _
  go_enter Try.func138, Try.ntmps138
  go_wp2_with fail
  go_loopw [9] (fun k wr => ∃ j : Nat, j ≤ n ∧ k = .int .i64 j ∧ Hid (colsB m xs = colsFrom m (prevOf xs j) (xs.drop j)) ∧ w = wr) (fun k _ => n - (intOf k).toNat)
  case atStart => exact ⟨0, Nat.zero_le _, rfl, HV.out, rfl⟩
  case round =>
    obtain ⟨j, hj, rfl, hE, rfl⟩ := hrel
    by_cases hlt : j < n
    · obtain ⟨b0, o0, x, rfl, hc, hx, _, _⟩ := h.get hlt
      have c0_lt : b0 < w.heap.size := cell_lt hc
      have c0 : w.cell? ⟨b0, o0 + j, none⟩ = some (.int .i64 x) := (hb0.cell (p := ⟨b0, o0 + j, none⟩) c0_lt).trans hc
      have HA := Lib.hid (hE.out.trans (by rw [cols_at (by omega) hx.out]))
      clear hE HV hl
      have hcall := within_any x 0 (m - 1) w
      by_cases hb : betw x 0 (m - 1) = true
      case neg =>
        replace hb : betw x 0 (m - 1) = false := by simpa using hb
        have HE := Lib.hid (show colsB m xs = false by rw [HA.out]; simp [hb])
        rw [hb] at hcall
        have HC := Lib.hid hcall
        clear h hcall hb
        go_wp2_with fail
        refine (HC.out).mono ?_
        rintro e w' ⟨rfl, rfl⟩
        go_wp2_with fail
        go_ret
        exact ⟨ret_bool HE.out.symm, rfl⟩
      have hx0 := betw_pos hb
      have H0 := Lib.hid hb
      rw [hb] at hcall
      have HC := Lib.hid hcall
      clear hb hcall
      by_cases hj0 : j = 0
      · subst hj0
        have HE := Lib.hid (show colsB m xs = colsFrom m (prevOf xs (0 + 1)) (xs.drop (0 + 1)) by
          rw [HA.out, show prevOf xs (0 + 1) = x from hx.out, show betw x 0 (m - 1) = true from H0.out, show decide (prevOf xs 0 < x) = true from decide_eq_true (show (-1 : Int) < x by omega)]; simp)
        have c0' : w.cell? ⟨b0, o0, none⟩ = some (.int .i64 x) := c0
        clear h hx HA
        go_wp2_with fail
        refine (HC.out).mono ?_
        rintro e w' ⟨rfl, rfl⟩
        go_wp2_with fail
        go_roundw
        case rel => exact ⟨1, by omega, rfl, HE.out, trivial⟩
        case measure => simp [intOf]; omega
      obtain ⟨i, rfl⟩ : ∃ i, j = i + 1 := ⟨j - 1, by omega⟩
      obtain ⟨b9, o9, y, hb9, hcy, hy, _, _⟩ := h.get (show i < n by omega)
      simp at hb9
      obtain ⟨rfl, rfl⟩ := hb9
      have cy_lt : b0 < w.heap.size := cell_lt hcy
      have cy : w.cell? ⟨b0, o0 + i, none⟩ = some (.int .i64 y) := (hb0.cell (p := ⟨b0, o0 + i, none⟩) cy_lt).trans hcy
      have hp : prevOf xs (i + 1) = y := hy.out
      rw [hp] at HA
      by_cases hxy : y < x
      · have HE := Lib.hid (show colsB m xs = colsFrom m (prevOf xs (i + 1 + 1)) (xs.drop (i + 1 + 1)) by
          rw [HA.out, show prevOf xs (i + 1 + 1) = x from hx.out, show betw x 0 (m - 1) = true from H0.out, decide_eq_true hxy]; simp)
        clear h hx HA hp hj0 hc hcy
        go_wp2_with fail
        refine (HC.out).mono ?_
        rintro e w' ⟨rfl, rfl⟩
        go_wp2_with fail
        go_roundw
        case rel => exact ⟨i + 1 + 1, by omega, by go_num, HE.out, trivial⟩
        case measure => simp [intOf]; omega
      · have HE := Lib.hid (show colsB m xs = false by rw [HA.out]; simp [hxy])
        clear h hx HA hp hj0 hc hcy
        go_wp2_with fail
        refine (HC.out).mono ?_
        rintro e w' ⟨rfl, rfl⟩
        go_wp2_with fail
        go_ret
        exact ⟨ret_bool HE.out.symm, rfl⟩
    · have HW : Hid (colsB m xs = true) := Lib.hid (by rw [hE.out, cols_end (by omega)])
      clear hE HV h hl
      go_wp2_with fail
      go_ret
      exact ⟨ret_bool HW.out.symm, rfl⟩

/-- Columns of a valid table. -/
def colsT (t : DT) (xs : List Int) : Bool := colsB t.2.1 xs && validT t

set_option maxHeartbeats 2000000 in
theorem l10Cols_any (cs : List Value) (t : DT) (a : Option Addr) (n cap : Nat) (xs : List Int) (w : World) (ht : rT.rep w cs t) (h : Ints w a n xs) :
    Calls Try.prog 133 #[.agg cs.toArray, .slice a n cap] w fun e w' => e = .returned (.bool (colsT t xs)) ∧ Below w.heap.size w w' := by
  obtain ⟨ub, un, uc, rfl, hs, hi, g1⟩ := rT_open ht
  have hcv := fun W (hW : Below w.heap.size w W) => validT_spec _ t W (rT.mono ht hW)
  obtain ⟨s, m, rows⟩ := t
  simp only at hs hi g1 hcv
  have HVT := Lib.hid hcv
  have hl := h.len
  have hn := h.small
  obtain ⟨V, hV⟩ : ∃ V, V = validT (s, m, rows) := ⟨_, rfl⟩
  rw [← hV] at HVT
  obtain ⟨M, hM⟩ : ∃ M, IntKind.i64.wrap (m - 1) = M := ⟨_, rfl⟩
  have HV : Hid (colsT (s, m, rows) xs = (colsFrom (M + 1) (prevOf xs 0) (xs.drop 0) && V)) := Lib.hid (by
    by_cases hmin : m = -9223372036854775808
    · have hVf : V = false := by rw [hV, validT]; subst hmin; simp [betw]
      simp [colsT, ← hV, hVf]
    · have : M + 1 = m := by rw [← hM, IntWalk.i64_in _ (by unfold I64 at hi; omega)]; omega
      rw [this]; simp [colsT, colsB, prevOf, hV])
  clear ht hcv hV g1 hs hi
  have Hw := Lib.hid hM
  have hb0 : Below w.heap.size w w := Below.refl _ _
  go_enter Try.func133, Try.ntmps133
  obtain ⟨w1, hw1⟩ : ∃ W, W = w.alloc (.cells #[.string s, .int .i64 m, .slice ub un uc] 34) := ⟨_, rfl⟩
  have z1 : Below w.heap.size w w1 := by rw [hw1]; exact (Below.refl _ _).alloc (Nat.le_refl _) _
  have s1 : w1.heap.size = w.heap.size + 1 := by rw [hw1]; simp
  have hb1 := on hb0 z1
  have b_0 : w1.cell? ⟨w.heap.size, 0, none⟩ = some (.string s) := by rw [hw1]; exact box_cell (Below.refl _ _) rfl
  have b_1 : w1.cell? ⟨w.heap.size, 1, none⟩ = some (.int .i64 m) := by rw [hw1]; exact box_cell (Below.refl _ _) rfl
  have b_2 : w1.cell? ⟨w.heap.size, 2, none⟩ = some (.slice ub un uc) := by rw [hw1]; exact box_cell (Below.refl _ _) rfl
  have raw1_b_0 := b_0
  have raw1_b_1 := b_1
  have raw1_b_2 := b_2
  rw [hw1] at raw1_b_0 raw1_b_1 raw1_b_2
  go_wp2_with fail
  rw [← hw1]
  clear hw1
  clear raw1_b_0 raw1_b_1 raw1_b_2
  go_loopw [5] (fun k wr => ∃ j : Nat, j ≤ n ∧ k = .int .i64 j ∧ Hid (colsT (s, m, rows) xs = (colsFrom (M + 1) (prevOf xs j) (xs.drop j) && V)) ∧ Drew w1 wr) (fun k _ => n - (intOf k).toNat)
  case atStart => exact ⟨0, Nat.zero_le _, rfl, HV.out, Drew.refl _⟩
  case round =>
    obtain ⟨j, hj, rfl, hE, hdr⟩ := hrel
    have hlc := hdr
    replace hdr : Below w1.heap.size w1 wr := hdr.below _
    have s2 := hdr.size
    have hb2 := on hb1 hdr
    replace b_0 := (hdr.cell (p := ⟨w.heap.size, 0, none⟩) (by simp only []; omega)).trans b_0
    replace b_1 := (hdr.cell (p := ⟨w.heap.size, 1, none⟩) (by simp only []; omega)).trans b_1
    replace b_2 := (hdr.cell (p := ⟨w.heap.size, 2, none⟩) (by simp only []; omega)).trans b_2
    by_cases hlt : j < n
    · obtain ⟨b0, o0, x, rfl, hc, hx, _, _⟩ := h.get hlt
      have c0_lt : b0 < w.heap.size := cell_lt hc
      have c0 : wr.cell? ⟨b0, o0 + j, none⟩ = some (.int .i64 x) := (hb2.cell (p := ⟨b0, o0 + j, none⟩) c0_lt).trans hc
      have HA := Lib.hid (hE.out.trans (by rw [cols_at (by omega) hx.out, show M + 1 - 1 = M by omega]))
      clear hE HV hl
      have hcall := fun q => l1In_any x 0 M (wr.drewN q)
      by_cases hb : betw x 0 M = true
      case neg =>
        replace hb : betw x 0 M = false := by simpa using hb
        have HE := Lib.hid (show colsT (s, m, rows) xs = false by rw [HA.out]; simp [hb])
        rw [hb] at hcall
        have HC := Lib.hid hcall
        clear h hb hcall
        go_wp2_with fail
        go_quiet ((go_at_call 98; exact quiet_same (HC.out _)))
        go_wp2_with fail
        go_ret
        exact ⟨ret_bool HE.out.symm, onD hb2 ⟨_, rfl⟩⟩
      have hx0 := betw_pos hb
      have H0 := Lib.hid hb
      rw [hb] at hcall
      have HC := Lib.hid hcall
      clear hb hcall
      by_cases hj0 : j = 0
      · subst hj0
        have HE := Lib.hid (show colsT (s, m, rows) xs = (colsFrom (M + 1) (prevOf xs (0 + 1)) (xs.drop (0 + 1)) && V) by
          rw [HA.out, show prevOf xs (0 + 1) = x from hx.out, H0.out, show decide (prevOf xs 0 < x) = true from decide_eq_true (show (-1 : Int) < x by omega)]; simp)
        have c0' : wr.cell? ⟨b0, o0, none⟩ = some (.int .i64 x) := c0
        clear h hx HA
        go_wp2_with fail
        go_quiet ((go_at_call 98; exact quiet_same (HC.out _)))
        go_wp2_with fail
        go_roundw
        case rel => exact ⟨1, by omega, rfl, HE.out, hlc.step _⟩
        case measure => simp [intOf]; omega
      obtain ⟨i, rfl⟩ : ∃ i, j = i + 1 := ⟨j - 1, by omega⟩
      obtain ⟨b9, o9, y, hb9, hcy, hy, _, _⟩ := h.get (show i < n by omega)
      simp at hb9
      obtain ⟨rfl, rfl⟩ := hb9
      have cy_lt : b0 < w.heap.size := cell_lt hcy
      have cy : wr.cell? ⟨b0, o0 + i, none⟩ = some (.int .i64 y) := (hb2.cell (p := ⟨b0, o0 + i, none⟩) cy_lt).trans hcy
      have hp : prevOf xs (i + 1) = y := hy.out
      rw [hp] at HA
      have hi63 : IntKind.i64.wrap (i : Int) = (i : Int) := IntWalk.i64_in _ (by omega)
      by_cases hxy : y < x
      · have HE := Lib.hid (show colsT (s, m, rows) xs = (colsFrom (M + 1) (prevOf xs (i + 1 + 1)) (xs.drop (i + 1 + 1)) && V) by
          rw [HA.out, show prevOf xs (i + 1 + 1) = x from hx.out, H0.out, decide_eq_true hxy]; simp)
        clear h hx HA hp hj0 hc hcy
        go_wp2_with fail
        go_quiet ((go_at_call 98; exact quiet_same (HC.out _)))
        clear hi63
        go_wp2_with fail
        go_roundw
        case rel => exact ⟨i + 1 + 1, by omega, by go_num, HE.out, hlc.step _⟩
        case measure => simp [intOf]; omega
      · have HE := Lib.hid (show colsT (s, m, rows) xs = false by rw [HA.out]; simp [hxy])
        clear h hx HA hp hj0 hc hcy
        go_wp2_with fail
        go_quiet ((go_at_call 98; exact quiet_same (HC.out _)))
        clear hi63
        go_wp2_with fail
        go_ret
        exact ⟨ret_bool HE.out.symm, onD hb2 ⟨_, rfl⟩⟩
    · have HW : Hid (colsT (s, m, rows) xs = V) := Lib.hid (by rw [hE.out, cols_end (by omega)]; simp)
      clear hE HV h hl
      go_wp2_with fail
      refine (HVT.out _ hb2).mono ?_
      rintro e w9 ⟨rfl, z9⟩
      have s3 := z9.size
      have hb3 := on hb2 z9
      replace b_0 := (z9.cell (p := ⟨w.heap.size, 0, none⟩) (by simp only []; omega)).trans b_0
      replace b_1 := (z9.cell (p := ⟨w.heap.size, 1, none⟩) (by simp only []; omega)).trans b_1
      replace b_2 := (z9.cell (p := ⟨w.heap.size, 2, none⟩) (by simp only []; omega)).trans b_2
      go_wp2_with fail
      go_ret
      exact ⟨ret_bool HW.out.symm, hb3⟩

end Go.Proofs.Ytbkoddikfpkocaa

/- Contracts: whether a query is valid. -/
namespace Go.Proofs.Ytbkoddikfpkocaa
open Go.RowKit
set_option linter.unusedVariables false
set_option linter.unusedSimpArgs false

/-- Variables as bits, laid over some. -/
def vbits (m : Nat) : List Int → Nat
  | [] => m
  | v :: t => vbits (m ||| 2 ^ v.toNat) t
def varsFrom (n : Int) (pre : List Int) : List Int → Bool
  | [] => true
  | v :: t => betw v 0 (n - 1) && !has pre v && varsFrom n (pre ++ [v]) t
def validFrom (n m : Nat) : List DA → Bool
  | [] => decide (m = 2 ^ n - 1)
  | a :: t => nameB a.1 && betw a.2.length 1 3 && (varsFrom n [] a.2 && validFrom n (vbits m a.2) t)
/-- Whether a query is valid. -/
def validQ (q : DQ) : Bool := betw q.1 1 4 && betw q.2.length 1 4 && validFrom q.1.toNat 0 q.2

theorem validQ_no1 {q : DQ} (h : betw q.1 1 4 = false) : validQ q = false := by simp [validQ, h]
theorem validQ_no2 {q : DQ} (h : betw q.2.length 1 4 = false) : validQ q = false := by simp [validQ, h]
theorem validQ_go {n : Nat} {xs : List DA} (h : betw (n : Int) 1 4 = true) (h' : betw xs.length 1 4 = true) : validQ ((n : Int), xs) = validFrom n 0 (xs.drop 0) := by simp [validQ, h, h']
theorem validFrom_at {n m j : Nat} {xs : List DA} {a : DA} (h : xs[j]? = some a) : validFrom n m (xs.drop j) = (nameB a.1 && betw a.2.length 1 3 && (varsFrom n (a.2.take 0) (a.2.drop 0) && validFrom n (vbits m (a.2.drop 0)) (xs.drop (j + 1)))) := by
  obtain ⟨h1, rfl⟩ := List.getElem?_eq_some_iff.1 h
  rw [List.drop_eq_getElem_cons h1]; simp [validFrom]
theorem validFrom_end {n m j : Nat} {xs : List DA} (h : xs.length ≤ j) : validFrom n m (xs.drop j) = decide (m = 2 ^ n - 1) := by
  rw [List.drop_eq_nil_of_le h]; rfl
theorem vars_no {n : Int} {k : Nat} {v : Int} {vs : List Int} (hk : k < vs.length) (hv : vs.getD k 0 = v) (h : (betw v 0 (n - 1) && !has (vs.take k) v) = false) : varsFrom n (vs.take k) (vs.drop k) = false := by
  rw [drop_cons vs k hk, hv, varsFrom, h]; rfl
theorem vars_yes {n : Int} {k : Nat} {v : Int} {vs : List Int} (hk : k < vs.length) (hv : vs.getD k 0 = v) (h : betw v 0 (n - 1) = true) (h' : has (vs.take k) v = false) : varsFrom n (vs.take k) (vs.drop k) = varsFrom n (vs.take (k + 1)) (vs.drop (k + 1)) := by
  rw [drop_cons vs k hk, hv, varsFrom, h, h', take_snoc vs k hk, hv]; simp
theorem vbits_at {m k : Nat} {v : Nat} {vs : List Int} (hk : k < vs.length) (hv : vs.getD k 0 = (v : Int)) : vbits m (vs.drop k) = vbits (m ||| 2 ^ v) (vs.drop (k + 1)) := by
  rw [drop_cons vs k hk, hv, vbits]; simp
theorem vars_end {n : Int} {k : Nat} {vs : List Int} (hk : vs.length ≤ k) : varsFrom n (vs.take k) (vs.drop k) = true := by
  rw [List.drop_eq_nil_of_le hk]; rfl
theorem vbits_end {m k : Nat} {vs : List Int} (hk : vs.length ≤ k) : vbits m (vs.drop k) = m := by
  rw [List.drop_eq_nil_of_le hk]; rfl
theorem or_lt {m v n : Nat} (h : m < 2 ^ n) (hv : v < n) : m ||| 2 ^ v < 2 ^ n := Nat.or_lt_two_pow h (Nat.pow_lt_pow_right (by omega) hv)
theorem pow_le16 {n : Nat} (h : n ≤ 4) : 2 ^ n ≤ 16 := by
  have := Nat.pow_le_pow_right (show 0 < 2 by omega) h
  omega
theorem Ints.takeTo {w : World} {a : Option Addr} {n : Nat} {xs : List Int} (h : Ints w a n xs) {k : Nat} (hk : k ≤ n) : Ints w a k (xs.take k) := by
  have hl := h.len
  refine ⟨by simp; omega, by have := h.small; omega, fun i hi => ?_, fun x hx => h.rng x (List.mem_of_mem_take hx)⟩
  obtain ⟨b, off, ha, hc⟩ := h.cell i (by omega)
  refine ⟨b, off, ha, ?_⟩
  rw [hc]
  congr 2
  simp [List.getD_eq_getElem?_getD, hi]

/-- Block g holds n bools: the bits of m. -/
structure Bools (w : World) (g n m : Nat) : Prop where
  blk : ∃ E, w.heap[g]? = some (.cells ((List.range n).map (fun i => Value.bool (m.testBit i))).toArray E)
theorem Bools.below {w w' : World} {g n m C : Nat} (h : Bools w g n m) (hb : Below C w w') (hC : g < C) : Bools w' g n m := by
  obtain ⟨E, h⟩ := h.blk
  exact ⟨E, by rw [hb.block g hC]; exact h⟩
theorem Bools.cell {w : World} {g n m : Nat} (h : Bools w g n m) {i : Nat} (hi : i < n) : w.cell? ⟨g, i, none⟩ = some (.bool (m.testBit i)) := by
  obtain ⟨E, h⟩ := h.blk
  simp [World.cell?, h, hi]
theorem Bools.frozen {w : World} {g n m : Nat} (h : Bools w g n m) (i : Nat) : w.frozen? ⟨g, i, none⟩ = false := by
  obtain ⟨E, h⟩ := h.blk
  simp [World.frozen?, h]
theorem Bools.lt {w : World} {g n m : Nat} (h : Bools w g n m) : g < w.heap.size := by
  obtain ⟨E, h⟩ := h.blk
  exact (Array.getElem?_eq_some_iff.1 h).1
theorem Bools.set {w : World} {g n m : Nat} (h : Bools w g n m) {v : Nat} (hv : v < n) : Bools (w.setCell ⟨g, v, none⟩ (.bool true)) g n (m ||| 2 ^ v) := by
  obtain ⟨E, h⟩ := h.blk
  refine ⟨E, ?_⟩
  rw [heap_setCell_same w g v _ E _ h]
  congr 2
  apply Array.ext'
  simp only [Array.toList_setIfInBounds]
  apply List.ext_getElem?
  intro i
  rw [List.getElem?_set]
  by_cases hi : i < n
  · by_cases hiv : v = i
    · subst hiv; simp [hi, Nat.testBit_or, Nat.testBit_two_pow_self]
    · simp [hi, hiv, Nat.testBit_or, Nat.testBit_two_pow_of_ne hiv]
  · have : v ≠ i := by omega
    simp [hi, this]
theorem Bools.of_part {B : Nat} {w : World} {g n : Nat} {xs : List Bool} {E : TypeId} (h : Part E O.bool [.bool false] B w g n 0 xs) : Bools w g n 0 := by
  obtain ⟨css, fps, h1, h2, _⟩ := h
  have : css = [] := by
    have := (O.bool.rows_len h2).1
    simpa using this
  subst this
  refine ⟨E, ?_⟩
  rw [h1]
  congr 2
  simp only [List.flatten_nil, List.nil_append, Nat.sub_zero]
  congr 1
  apply List.ext_getElem?
  intro i
  have := rep_flat [Value.bool false] (by simp) n i
  rw [this]
  by_cases hi : i < n <;> simp [hi, Nat.mod_one]

theorem Turn.setCell {lo hi : Nat} {a w : World} (h : Turn lo hi a w) {p : Addr} (h1 : lo ≤ p.block) (h2 : p.block < hi) (u : Value) : Turn lo hi a (w.setCell p u) :=
  h.trans ((Kept.refl lo hi w).setCell h1 h2 u).turn

theorem wrap_pow {n : Nat} (h : n ≤ 16) : wrap64 ((2 : Int) ^ n) = ((2 ^ n : Nat) : Int) := by
  have h1 := Nat.pow_le_pow_right (show 0 < 2 by omega) h
  have h2 : ((2 : Int) ^ n) = ((2 ^ n : Nat) : Int) := by simp
  rw [h2]
  generalize 2 ^ n = p at h1
  exact IntWalk.wrap64_in _ ⟨by omega, by omega⟩
theorem or_pow {m v : Nat} (hm : m < 65536) (hv : v ≤ 16) : bits .or .i64 (m : Int) (wrap64 ((2 : Int) ^ v)) = ((m ||| 2 ^ v : Nat) : Int) := by
  have h1 := Nat.pow_le_pow_right (show 0 < 2 by omega) hv
  rw [wrap_pow hv]
  generalize 2 ^ v = p at h1
  exact bits_or_nat _ _ (by omega) (by omega)
theorem full_eq {m n : Nat} (hn : n ≤ 16) : ((m : Int) == wrap64 (wrap64 ((2 : Int) ^ n) - 1)) = decide (m = 2 ^ n - 1) := by
  have h1 := Nat.pow_le_pow_right (show 0 < 2 by omega) hn
  have h2 := Nat.two_pow_pos n
  rw [wrap_pow hn]
  generalize 2 ^ n = p at h1 h2
  rw [IntWalk.wrap64_in _ ⟨by omega, by omega⟩, Bool.eq_iff_iff]
  simp only [beq_iff_eq, decide_eq_true_eq]
  omega

set_option maxHeartbeats 400000 in
theorem indexBools (g n m cap : Nat) (w : World) (h : Bools w g n m) (hn : n ≤ 4) (hm : m < 2 ^ n) :
    Calls Try.prog 205 #[.slice (some ⟨g, 0, none⟩) n cap, .bool false] w fun e w' => ∃ r : Int, e = .returned (.int .i64 r) ∧ decide (0 ≤ r) = !decide (m = 2 ^ n - 1) ∧ w = w' := by
  go_enter Try.func205, Try.ntmps205
  go_wp2
  go_loop [5, 8] (fun _ i => ∃ j : Nat, j ≤ n ∧ i = .int .i64 j ∧ Hid (∀ i, i < j → m.testBit i = true)) (fun _ i => n - (intOf i).toNat)
  case atStart => exact ⟨0, Nat.zero_le _, rfl, by simp [Hid]⟩
  case round =>
    obtain ⟨j, hj, rfl, hE⟩ := hrel
    by_cases hlt : j < n
    · have hc := h.cell hlt
      obtain ⟨t, ht⟩ : ∃ t, t = m.testBit j := ⟨_, rfl⟩
      rw [← ht] at hc
      cases t with
      | true =>
        have HE := Lib.hid (show ∀ i, i < j + 1 → m.testBit i = true by
          intro i hi
          rcases Nat.lt_or_ge i j with h1 | h1
          · exact hE.out i h1
          · obtain rfl : i = j := by omega
            exact ht.symm)
        clear h ht hm
        go_wp2
        go_round
        case rel => exact ⟨j + 1, by omega, by go_num, HE.out⟩
        case measure => simp [intOf]; omega
      | false =>
        have HE := Lib.hid (show (!decide (m = 2 ^ n - 1)) = true by
          simp only [Bool.not_eq_true', decide_eq_false_iff_not]
          intro e
          subst e
          rw [Nat.testBit_two_pow_sub_one] at ht
          simp [hlt] at ht)
        clear h ht hm
        go_wp2
        go_ret
        exact ⟨_, rfl, by rw [HE.out]; simp, rfl⟩
    · have HE := Lib.hid (show (!decide (m = 2 ^ n - 1)) = false by
        simp only [Bool.not_eq_false', decide_eq_true_eq]
        apply Nat.eq_of_testBit_eq
        intro i
        rw [Nat.testBit_two_pow_sub_one]
        by_cases hi : i < n
        · rw [hE.out i (by omega)]; simp [hi]
        · simp only [hi, decide_false]
          exact Nat.testBit_lt_two_pow (Nat.lt_of_lt_of_le hm (Nat.pow_le_pow_right (by omega) (by omega))))
      clear h hm
      go_wp2
      go_ret
      exact ⟨_, rfl, by rw [HE.out]; rfl, rfl⟩

theorem containsBools (g n m cap : Nat) (w : World) (h : Bools w g n m) (hn : n ≤ 4) (hm : m < 2 ^ n) :
    Calls Try.prog 175 #[.slice (some ⟨g, 0, none⟩) n cap, .bool false] w fun e w' => e = .returned (.bool (!decide (m = 2 ^ n - 1))) ∧ w = w' := by
  go_enter Try.func175, Try.ntmps175
  go_wp2_with fail
  refine (indexBools _ _ _ _ _ h hn hm).mono ?_
  rintro e w' ⟨r, rfl, hr, rfl⟩
  have HR := Lib.hid hr
  clear hr hm
  go_wp2_with fail
  go_ret
  exact ⟨ret_bool HR.out, rfl⟩

end Go.Proofs.Ytbkoddikfpkocaa

/- Plain facts: masks of atoms, and the variables of what they hold. -/
namespace Go.Proofs.Ytbkoddikfpkocaa
open Go.RowKit
set_option linter.unusedVariables false
set_option linter.unusedSimpArgs false

/-- What a valid query is known to hold. -/
structure QOk (q : DQ) (n : Nat) : Prop where
  cnt : q.1 = n
  pos : 1 ≤ n
  le : n ≤ 4
  lpos : 1 ≤ q.2.length
  len : q.2.length ≤ 4
  name : ∀ a ∈ q.2, nameB a.1 = true
  vpos : ∀ a ∈ q.2, 1 ≤ a.2.length
  vlen : ∀ a ∈ q.2, a.2.length ≤ 3
  vars : ∀ a ∈ q.2, ∀ v ∈ a.2, 0 ≤ v ∧ v < n
theorem varsFrom_mem {n : Int} : ∀ {vs pre : List Int}, varsFrom n pre vs = true → ∀ v ∈ vs, 0 ≤ v ∧ v < n
  | [], _, _, v, hv => by cases hv
  | x :: t, pre, h, v, hv => by
    simp only [varsFrom, Bool.and_eq_true, betw, decide_eq_true_eq] at h
    rcases List.mem_cons.1 hv with rfl | hv
    · omega
    · exact varsFrom_mem h.2 v hv
theorem validFrom_atoms {n : Nat} : ∀ {xs : List DA} {m : Nat}, validFrom n m xs = true → ∀ a ∈ xs, nameB a.1 = true ∧ 1 ≤ a.2.length ∧ a.2.length ≤ 3 ∧ ∀ v ∈ a.2, 0 ≤ v ∧ v < (n : Int)
  | [], _, _, a, ha => by cases ha
  | x :: t, m, h, a, ha => by
    simp only [validFrom, Bool.and_eq_true, betw, decide_eq_true_eq] at h
    rcases List.mem_cons.1 ha with rfl | ha
    · exact ⟨h.1.1, by omega, by omega, varsFrom_mem h.2.1⟩
    · exact validFrom_atoms h.2.2 a ha
theorem QOk.of {q : DQ} (h : validQ q = true) : ∃ n, QOk q n := by
  simp only [validQ, Bool.and_eq_true, betw, decide_eq_true_eq] at h
  have hf := validFrom_atoms h.2
  refine ⟨q.1.toNat, by omega, by omega, by omega, by omega, by omega, fun a ha => (hf a ha).1, fun a ha => (hf a ha).2.1, fun a ha => (hf a ha).2.2.1, fun a ha => (hf a ha).2.2.2⟩

/-- The variables, as bits, of the atoms of a mask; i: the first atom's number. -/
def qbits (K m : Nat) : Nat → List DA → Nat
  | _, [] => m
  | i, a :: t => qbits K (if bitAt K i then vbits m a.2 else m) (i + 1) t
/-- The variables of a mask. -/
def bitsOf (q : DQ) (K : Nat) : Nat := qbits K 0 0 q.2

theorem qbits_at {K m j : Nat} {xs : List DA} {a : DA} (h : xs[j]? = some a) : qbits K m j (xs.drop j) = qbits K (if bitAt K j then vbits m (a.2.drop 0) else m) (j + 1) (xs.drop (j + 1)) := by
  obtain ⟨h1, rfl⟩ := List.getElem?_eq_some_iff.1 h
  rw [List.drop_eq_getElem_cons h1]; simp [qbits]
theorem qbits_end {K m j : Nat} {xs : List DA} (h : xs.length ≤ j) : qbits K m j (xs.drop j) = m := by
  rw [List.drop_eq_nil_of_le h]; rfl

theorem vbits_or : ∀ (vs : List Int) (m : Nat), vbits m vs = m ||| vbits 0 vs
  | [], m => by simp [vbits]
  | v :: t, m => by
    rw [vbits, vbits, vbits_or t (m ||| 2 ^ v.toNat), vbits_or t (0 ||| 2 ^ v.toNat), Nat.zero_or, Nat.or_assoc]
theorem vbits_lt {n : Nat} : ∀ {vs : List Int} {m : Nat}, (∀ v ∈ vs, 0 ≤ v ∧ v < (n : Int)) → m < 2 ^ n → vbits m vs < 2 ^ n
  | [], m, _, hm => hm
  | v :: t, m, h, hm => by
    have h1 := h v (by simp)
    have h2 : v.toNat < n := by omega
    show vbits (m ||| 2 ^ v.toNat) t < 2 ^ n
    exact @vbits_lt n t (m ||| 2 ^ v.toNat) (fun x hx => h x (by simp [hx])) (or_lt hm h2)
theorem vbits_test {j : Nat} : ∀ {vs : List Int} {m : Nat}, (∀ v ∈ vs, 0 ≤ v) → ((vbits m vs).testBit j = (m.testBit j || has vs (j : Int)))
  | [], m, _ => by simp [vbits, has]
  | v :: t, m, h => by
    have hv := h v (by simp)
    rw [vbits, vbits_test (fun x hx => h x (by simp [hx])), Nat.testBit_or, Bool.or_assoc]
    congr 1
    obtain ⟨k, rfl⟩ := Int.eq_ofNat_of_zero_le hv
    by_cases e : k = j
    · subst e
      simp [Nat.testBit_two_pow_self, has]
    · have e' : ¬ (j : Int) = (k : Int) := by omega
      simp [Nat.testBit_two_pow_of_ne e, has, e']
theorem qbits_lt {K n : Nat} : ∀ {xs : List DA} {m i : Nat}, (∀ a ∈ xs, ∀ v ∈ a.2, 0 ≤ v ∧ v < (n : Int)) → m < 2 ^ n → qbits K m i xs < 2 ^ n
  | [], m, i, _, hm => hm
  | a :: t, m, i, h, hm => by
    rw [qbits]
    refine qbits_lt (fun b hb => h b (by simp [hb])) ?_
    split
    · exact vbits_lt (h a (by simp)) hm
    · exact hm
theorem QOk.bits_lt {q : DQ} {n : Nat} (h : QOk q n) (K : Nat) : bitsOf q K < 2 ^ n := qbits_lt h.vars (Nat.two_pow_pos _)
/-- Whether some atom of a mask, from atom i on, holds variable v. -/
def someFrom (K v : Nat) : Nat → List DA → Bool
  | _, [] => false
  | i, a :: t => (bitAt K i && has a.2 (v : Int)) || someFrom K v (i + 1) t
theorem someFrom_at {K v j : Nat} {xs : List DA} {a : DA} (h : xs[j]? = some a) : someFrom K v j (xs.drop j) = ((bitAt K j && has a.2 (v : Int)) || someFrom K v (j + 1) (xs.drop (j + 1))) := by
  obtain ⟨h1, rfl⟩ := List.getElem?_eq_some_iff.1 h
  rw [List.drop_eq_getElem_cons h1]; rfl
theorem someFrom_end {K v j : Nat} {xs : List DA} (h : xs.length ≤ j) : someFrom K v j (xs.drop j) = false := by
  rw [List.drop_eq_nil_of_le h]; rfl
theorem qbits_some {K v : Nat} : ∀ {xs : List DA} {m i : Nat}, (∀ a ∈ xs, ∀ v ∈ a.2, 0 ≤ v) → ((qbits K m i xs).testBit v = (m.testBit v || someFrom K v i xs))
  | [], m, i, _ => by simp [qbits, someFrom]
  | a :: t, m, i, h => by
    rw [qbits, qbits_some (fun b hb => h b (by simp [hb])), someFrom]
    split
    · rename_i hb; rw [vbits_test (h a (by simp)), hb]; simp [Bool.or_assoc]
    · rename_i hb; simp [hb]
theorem QOk.some {q : DQ} {n : Nat} (h : QOk q n) (K v : Nat) : bitAt (bitsOf q K) v = someFrom K v 0 (q.2.drop 0) := by
  rw [bitAt_testBit, bitsOf, qbits_some (fun a ha x hx => (h.vars a ha x hx).1)]; simp
/-- The variables of a mask. -/
def varsOf (q : DQ) (K : Nat) : List Int := bitsTo (bitsOf q K) 4
theorem bitsTo_more {x n : Nat} (h : x < 2 ^ n) : ∀ k, bitsTo x (n + k) = bitsTo x n
  | 0 => rfl
  | k + 1 => by
    rw [show n + (k + 1) = n + k + 1 by omega, bitsTo_no, bitsTo_more h k]
    rw [bitAt_testBit]
    exact Nat.testBit_lt_two_pow (Nat.lt_of_lt_of_le h (Nat.pow_le_pow_right (by omega) (by omega)))
theorem QOk.varsOf {q : DQ} {n : Nat} (h : QOk q n) (K : Nat) : varsOf q K = bitsTo (bitsOf q K) n := by
  have := bitsTo_more (h.bits_lt K) (4 - n)
  rw [show n + (4 - n) = 4 by have := h.le; omega] at this
  exact this
theorem bitsTo_has {x : Nat} : ∀ {m v : Nat}, has (bitsTo x m) (v : Int) = (decide (v < m) && x.testBit v)
  | 0, v => by simp [bitsTo, has]
  | m + 1, v => by
    have ih := @bitsTo_has x m v
    simp only [has] at ih ⊢
    rw [Bool.eq_iff_iff] at ih ⊢
    simp only [decide_eq_true_eq, Bool.and_eq_true] at ih ⊢
    simp only [bitsTo, List.mem_append]
    rw [bitAt_testBit]
    constructor
    · rintro (h | h)
      · have := ih.1 h; exact ⟨by omega, this.2⟩
      · split at h
        · rename_i hb; simp only [List.mem_singleton] at h; obtain rfl : v = m := by omega
          exact ⟨by omega, hb⟩
        · simp at h
    · rintro ⟨h1, h2⟩
      rcases Nat.lt_or_ge v m with h3 | h3
      · exact .inl (ih.2 ⟨h3, h2⟩)
      · obtain rfl : v = m := by omega
        right; simp [h2]
theorem varsOf_has (q : DQ) {K v : Nat} (hv : v < 4) : has (varsOf q K) (v : Int) = (bitsOf q K).testBit v := by
  rw [Go.Proofs.Ytbkoddikfpkocaa.varsOf, bitsTo_has]; simp [hv]

/-- The full mask of a query. -/
def fullMask (q : DQ) : Int := if validQ q then ((2 ^ q.2.length - 1 : Nat) : Int) else 0
/-- Whether a query is valid and a mask one of its atoms. -/
def maskOkB (q : DQ) (k : Int) : Bool := validQ q && betw k 0 ((2 ^ q.2.length - 1 : Nat) : Int)
/-- MaskVariables. -/
def maskVars (q : DQ) (k : Int) : List Int := if maskOkB q k then varsOf q k.toNat else []
theorem maskVars_no {q : DQ} {k : Int} (h : maskOkB q k = false) : maskVars q k = [] := by simp [maskVars, h]
theorem maskVars_yes {q : DQ} {K : Nat} (h : maskOkB q (K : Int) = true) : maskVars q (K : Int) = varsOf q K := by simp [maskVars, h]
theorem maskOkB_lt {q : DQ} {k : Int} (h : maskOkB q k = true) : ∃ K : Nat, k = K ∧ K < 2 ^ q.2.length := by
  simp only [maskOkB, Bool.and_eq_true, betw, decide_eq_true_eq] at h
  have := Nat.two_pow_pos q.2.length
  exact ⟨k.toNat, by omega, by omega⟩
theorem maskOkB_valid {q : DQ} {k : Int} (h : maskOkB q k = true) : validQ q = true := by
  simp only [maskOkB, Bool.and_eq_true] at h; exact h.1
theorem varsOf_len (q : DQ) (K : Nat) : (varsOf q K).length ≤ 4 := bitsTo_len _ _
theorem maskVars_len (q : DQ) (k : Int) : (maskVars q k).length ≤ 4 := by
  unfold maskVars; split
  · exact varsOf_len _ _
  · simp
/-- What of one list is among another. -/
def both (xs ys : List Int) : List Int := xs.filter (has ys)
theorem both_yes {xs ys : List Int} {j : Nat} {x : Int} (hj : j < xs.length) (hx : xs.getD j 0 = x) (h : has ys x = true) : both (xs.take (j + 1)) ys = both (xs.take j) ys ++ [x] := by
  rw [take_snoc xs j hj, hx, both, List.filter_append, both]; simp [h]
theorem both_no {xs ys : List Int} {j : Nat} {x : Int} (hj : j < xs.length) (hx : xs.getD j 0 = x) (h : has ys x = false) : both (xs.take (j + 1)) ys = both (xs.take j) ys := by
  rw [take_snoc xs j hj, hx, both, List.filter_append, both]; simp [h]
theorem both_len (xs ys : List Int) : (both xs ys).length ≤ xs.length := List.length_filter_le _ _
theorem both_end {xs ys : List Int} {j : Nat} (h : xs.length ≤ j) : both (xs.take j) ys = both xs ys := by rw [List.take_of_length_le h]
end Go.Proofs.Ytbkoddikfpkocaa

/- Contracts: whether a query is valid: the program's. -/
namespace Go.Proofs.Ytbkoddikfpkocaa
open Go.RowKit
set_option linter.unusedVariables false
set_option linter.unusedSimpArgs false
set_option synthInstance.maxSize 2000
set_option synthInstance.maxHeartbeats 400000

theorem infoBool : (Try.prog.info? 4).map (fun i => (i.zero, i.size, i.bytes)) = some (some (.bool false), 1, 1) := by kernel_rfl

set_option maxHeartbeats 2000000 in
theorem validQ_impl (cs : List Value) (x : DQ) (w : World) (h : rQ.rep w cs x) :
    Calls Try.prog 116 #[.agg cs.toArray] w fun e w' => e = .returned (.bool (validQ x)) ∧ Below w.heap.size w w' := by
  obtain ⟨ub, un, uc, rfl, hi, g1⟩ := rQ_open h
  clear h
  obtain ⟨i, xs⟩ := x
  simp only at hi g1
  obtain ⟨hi1, hi2⟩ := hi
  have t0 := rS_sl g1
  have hl := t0.len
  have hn := t0.small
  clear t0
  have hb0 : Below w.heap.size w w := Below.refl _ _
  by_cases h1 : betw i 1 4 = true
  case neg =>
    replace h1 : betw i 1 4 = false := by simpa using h1
    have HE := Lib.hid (validQ_no1 (q := (i, xs)) h1)
    go_enter Try.func116, Try.ntmps116
    obtain ⟨w1, hw1⟩ : ∃ W, W = w.alloc (.cells #[.int .i64 i, .slice ub un uc] 46) := ⟨_, rfl⟩
    have z1 : Below w.heap.size w w1 := by rw [hw1]; exact (Below.refl _ _).alloc (Nat.le_refl _) _
    have s1 : w1.heap.size = w.heap.size + 1 := by rw [hw1]; simp
    have hb1 := on hb0 z1
    have b_0 : w1.cell? ⟨w.heap.size, 0, none⟩ = some (.int .i64 i) := by rw [hw1]; exact box_cell (Below.refl _ _) rfl
    have b_1 : w1.cell? ⟨w.heap.size, 1, none⟩ = some (.slice ub un uc) := by rw [hw1]; exact box_cell (Below.refl _ _) rfl
    have raw1_b_0 := b_0
    have raw1_b_1 := b_1
    rw [hw1] at raw1_b_0 raw1_b_1
    go_wp2_with fail
    rw [← hw1]
    clear hw1
    clear raw1_b_0 raw1_b_1
    refine (within_any _ _ _ _).mono ?_
    rintro e w' ⟨rfl, rfl⟩
    clear hl
    go_wp2_with fail
    go_ret
    exact ⟨ret_bool HE.out.symm, hb1⟩
  by_cases h2 : betw un 1 4 = true
  case neg =>
    replace h2 : betw un 1 4 = false := by simpa using h2
    have HE := Lib.hid (validQ_no2 (q := (i, xs)) (by simp only []; rw [hl]; exact h2))
    go_enter Try.func116, Try.ntmps116
    obtain ⟨w2, hw2⟩ : ∃ W, W = w.alloc (.cells #[.int .i64 i, .slice ub un uc] 46) := ⟨_, rfl⟩
    have z2 : Below w.heap.size w w2 := by rw [hw2]; exact (Below.refl _ _).alloc (Nat.le_refl _) _
    have s2 : w2.heap.size = w.heap.size + 1 := by rw [hw2]; simp
    have hb2 := on hb0 z2
    have b_0 : w2.cell? ⟨w.heap.size, 0, none⟩ = some (.int .i64 i) := by rw [hw2]; exact box_cell (Below.refl _ _) rfl
    have b_1 : w2.cell? ⟨w.heap.size, 1, none⟩ = some (.slice ub un uc) := by rw [hw2]; exact box_cell (Below.refl _ _) rfl
    have raw2_b_0 := b_0
    have raw2_b_1 := b_1
    rw [hw2] at raw2_b_0 raw2_b_1
    go_wp2_with fail
    rw [← hw2]
    clear hw2
    clear raw2_b_0 raw2_b_1
    refine (within_any _ _ _ _).mono ?_
    rintro e w' ⟨rfl, rfl⟩
    go_wp2_with fail
    refine (within_any _ _ _ _).mono ?_
    rintro e w' ⟨rfl, rfl⟩
    clear hl
    go_wp2_with fail
    go_ret
    exact ⟨ret_bool HE.out.symm, hb2⟩
  have h3 := h1
  simp only [betw, Bool.and_eq_true, decide_eq_true_eq] at h3
  obtain ⟨n, rfl⟩ := Int.eq_ofNat_of_zero_le (show 0 ≤ i by omega)
  have hn1 : 1 ≤ n ∧ n ≤ 4 := by omega
  obtain ⟨hn1, hn4⟩ := hn1
  clear h3 hi1 hi2
  have HV := Lib.hid (validQ_go (xs := xs) h1 (by rw [hl]; exact h2))
  have H2 := Lib.hid h2
  go_enter Try.func116, Try.ntmps116
  obtain ⟨w3, hw3⟩ : ∃ W, W = w.alloc (.cells #[.int .i64 n, .slice ub un uc] 46) := ⟨_, rfl⟩
  have z3 : Below w.heap.size w w3 := by rw [hw3]; exact (Below.refl _ _).alloc (Nat.le_refl _) _
  have s3 : w3.heap.size = w.heap.size + 1 := by rw [hw3]; simp
  have hb3 := on hb0 z3
  have b_0 : w3.cell? ⟨w.heap.size, 0, none⟩ = some (.int .i64 n) := by rw [hw3]; exact box_cell (Below.refl _ _) rfl
  have b_1 : w3.cell? ⟨w.heap.size, 1, none⟩ = some (.slice ub un uc) := by rw [hw3]; exact box_cell (Below.refl _ _) rfl
  have raw3_b_0 := b_0
  have raw3_b_1 := b_1
  rw [hw3] at raw3_b_0 raw3_b_1
  go_wp2_with fail
  rw [← hw3]
  clear hw3
  clear raw3_b_0 raw3_b_1
  refine (within_any _ _ _ _).mono ?_
  rintro e w' ⟨rfl, rfl⟩
  go_wp2_with fail
  refine (within_any _ _ _ _).mono ?_
  rintro e w' ⟨rfl, rfl⟩
  go_wp2_with (at_make; refine wpList_mkS Try.underlying159 infoBool rfl (by decide) (by decide) O.bool ([] : List Bool) _ _ n (by omega) rfl rfl rfl rfl ?_; intro w2 hp hz hz2; have s4 := hz.size; have hb4 := on hb3 hz; replace b_0 := (hz.cell (p := ⟨w.heap.size, 0, none⟩) (by simp only []; omega)).trans b_0; replace b_1 := (hz.cell (p := ⟨w.heap.size, 1, none⟩) (by simp only []; omega)).trans b_1)
  have B0 : Bools w2 (w.heap.size + 1) n 0 := by have h9 := Bools.of_part hp; rwa [show w3.heap.size = (w.heap.size + 1) by omega] at h9
  clear hp h1 h2
  go_loopw [25] (fun k wr => ∃ j m : Nat, j ≤ un ∧ m < 2 ^ n ∧ k = .int .i64 j ∧ Hid (validQ ((n : Int), xs) = validFrom n m (xs.drop j)) ∧ Bools wr (w.heap.size + 1) n m ∧ Turn (w.heap.size + 1) (w.heap.size + 2) w2 wr) (fun k _ => un - (intOf k).toNat)
  case atStart => exact ⟨0, 0, Nat.zero_le _, Nat.two_pow_pos _, rfl, HV.out, B0, turn_refl _ _ _⟩
  case round =>
    obtain ⟨j, m, hj, hm, rfl, hE, hB, hdr⟩ := hrel
    obtain ⟨wo, rfl⟩ : ∃ W, W = wr := ⟨_, rfl⟩
    have hlc := hdr
    clear B0
    have s5 := hdr.size
    have hb5 := hb4.trans ((hdr.below (by omega)).mono (by omega))
    replace b_0 := (hdr.cell (p := ⟨w.heap.size, 0, none⟩) (by simp only []; omega) (by simp only []; omega)).trans b_0
    replace b_1 := (hdr.cell (p := ⟨w.heap.size, 1, none⟩) (by simp only []; omega) (by simp only []; omega)).trans b_1
    have t0 := rS_sl g1
    have hm16 := pow_le16 hn4
    by_cases hlt : j < un
    · obtain ⟨b1, o1, cs, x, rfl, hx, hr, hc⟩ := t0.at hlt
      obtain ⟨s, vs⟩ := x
      obtain ⟨vb, vn, vc, rfl, hs, g2⟩ := rA_open hr
      simp only at hs g2
      have i0 := rI_ints g2
      have hvl := i0.len
      have hvs := i0.small
      obtain ⟨hvc, hvc2⟩ := rS_cap g2
      have e_lt : b1 < w.heap.size := cell_lt (hc 0 _ rfl)
      have e_0 : wo.cell? ⟨b1, o1 + j * 2, none⟩ = some (.string s) := (hb5.cell (p := ⟨b1, o1 + j * 2, none⟩) e_lt).trans (by have h9 := hc 0 _ rfl; rw [← Nat.add_assoc] at h9; exact h9)
      have e_1 : wo.cell? ⟨b1, o1 + j * 2 + 1, none⟩ = some (.slice vb vn vc) := (hb5.cell (p := ⟨b1, o1 + j * 2 + 1, none⟩) e_lt).trans (by have h9 := hc 1 _ rfl; rw [← Nat.add_assoc] at h9; exact h9)
      have HA := Lib.hid (hE.out.trans (validFrom_at hx.out))
      clear hc t0 hr hl hx hE i0 HV
      have hg := hB.lt
      obtain ⟨w6, hw6⟩ : ∃ W, W = wo.alloc (.cells #[.string s, .slice vb vn vc] 161) := ⟨_, rfl⟩
      have z6 : Below wo.heap.size wo w6 := by rw [hw6]; exact (Below.refl _ _).alloc (Nat.le_refl _) _
      have s6 : w6.heap.size = wo.heap.size + 1 := by rw [hw6]; simp
      have hb6 := on hb5 z6
      have old6_b_0 := b_0
      have old6_b_1 := b_1
      have old6_e_0 := e_0
      have old6_e_1 := e_1
      replace b_0 := (z6.cell (p := ⟨w.heap.size, 0, none⟩) (by simp only []; omega)).trans b_0
      replace b_1 := (z6.cell (p := ⟨w.heap.size, 1, none⟩) (by simp only []; omega)).trans b_1
      replace hlc := hlc.trans (turn_below z6 (Nat.le_refl _))
      replace e_0 := (z6.cell (p := ⟨b1, o1 + j * 2, none⟩) (by simp only []; omega)).trans e_0
      replace e_1 := (z6.cell (p := ⟨b1, o1 + j * 2 + 1, none⟩) (by simp only []; omega)).trans e_1
      replace hB := hB.below z6 (by omega)
      have p_0 : w6.cell? ⟨wo.heap.size, 0, none⟩ = some (.string s) := by rw [hw6]; exact box_cell (Below.refl _ _) rfl
      have p_1 : w6.cell? ⟨wo.heap.size, 1, none⟩ = some (.slice vb vn vc) := by rw [hw6]; exact box_cell (Below.refl _ _) rfl
      have raw6_b_0 := b_0
      have raw6_b_1 := b_1
      have raw6_e_0 := e_0
      have raw6_e_1 := e_1
      have raw6_p_0 := p_0
      have raw6_p_1 := p_1
      rw [hw6] at raw6_b_0 raw6_b_1 raw6_e_0 raw6_e_1 raw6_p_0 raw6_p_1
      by_cases h1 : nameB s = true
      case neg =>
        replace h1 : nameB s = false := by simpa using h1
        have HE := Lib.hid (show validQ ((n : Int), xs) = false by rw [HA.out]; simp [h1])
        go_wp2_with fail
        rw [← hw6]
        clear hw6
        clear old6_b_0 old6_b_1 old6_e_0 old6_e_1 raw6_b_0 raw6_b_1 raw6_e_0 raw6_e_1 raw6_p_0 raw6_p_1
        refine (nameOk_any _ _ hs).mono ?_
        rintro e w' ⟨rfl, rfl⟩
        go_wp2_with fail
        go_ret
        exact ⟨ret_bool HE.out.symm, hb6⟩
      by_cases h2 : betw vn 1 3 = true
      case neg =>
        replace h2 : betw vn 1 3 = false := by simpa using h2
        have HE := Lib.hid (show validQ ((n : Int), xs) = false by rw [HA.out]; simp [hvl, h2])
        go_wp2_with fail
        rw [← hw6]
        clear hw6
        clear old6_b_0 old6_b_1 old6_e_0 old6_e_1 raw6_b_0 raw6_b_1 raw6_e_0 raw6_e_1 raw6_p_0 raw6_p_1
        refine (nameOk_any _ _ hs).mono ?_
        rintro e w' ⟨rfl, rfl⟩
        go_wp2_with fail
        refine (within_any _ _ _ _).mono ?_
        rintro e w' ⟨rfl, rfl⟩
        go_wp2_with fail
        go_ret
        exact ⟨ret_bool HE.out.symm, hb6⟩
      have HA2 := Lib.hid (show validQ ((n : Int), xs) = (varsFrom n (vs.take 0) (vs.drop 0) && validFrom n (vbits m (vs.drop 0)) (xs.drop (j + 1))) by rw [HA.out]; simp [h1, hvl, h2])
      clear HA
      go_wp2_with fail
      rw [← hw6]
      clear hw6
      clear old6_b_0 old6_b_1 old6_e_0 old6_e_1 raw6_b_0 raw6_b_1 raw6_e_0 raw6_e_1 raw6_p_0 raw6_p_1
      refine (nameOk_any _ _ hs).mono ?_
      rintro e w' ⟨rfl, rfl⟩
      go_wp2_with fail
      refine (within_any _ _ _ _).mono ?_
      rintro e w' ⟨rfl, rfl⟩
      have h3 := h2
      simp only [betw, Bool.and_eq_true, decide_eq_true_eq] at h3
      go_wp2_with fail
      clear h1 h2
      go_loopw [43] (fun k wr => ∃ i m : Nat, i ≤ vn ∧ m < 2 ^ n ∧ k = .int .i64 i ∧ Hid (validQ ((n : Int), xs) = (varsFrom n (vs.take i) (vs.drop i) && validFrom n (vbits m (vs.drop i)) (xs.drop (j + 1)))) ∧ Bools wr (w.heap.size + 1) n m ∧ Turn (w.heap.size + 1) (w.heap.size + 2) w6 wr) (fun k _ => vn - (intOf k).toNat)
      case atStart => exact ⟨0, m, Nat.zero_le _, hm, rfl, HA2.out, hB, turn_refl _ _ _⟩
      case round =>
        obtain ⟨i, m, hi, hm, rfl, hE, hB, hdr⟩ := hrel
        have hlo := hdr
        have s7 := hdr.size
        have hb7 := hb6.trans ((hdr.below (by omega)).mono (by omega))
        replace b_0 := (hdr.cell (p := ⟨w.heap.size, 0, none⟩) (by simp only []; omega) (by simp only []; omega)).trans b_0
        replace b_1 := (hdr.cell (p := ⟨w.heap.size, 1, none⟩) (by simp only []; omega) (by simp only []; omega)).trans b_1
        replace hlc := hlc.trans hdr
        replace e_0 := (hdr.cell (p := ⟨b1, o1 + j * 2, none⟩) (by simp only []; omega) (by simp only []; omega)).trans e_0
        replace e_1 := (hdr.cell (p := ⟨b1, o1 + j * 2 + 1, none⟩) (by simp only []; omega) (by simp only []; omega)).trans e_1
        replace p_0 := (hdr.cell (p := ⟨wo.heap.size, 0, none⟩) (by simp only []; omega) (by simp only []; omega)).trans p_0
        replace p_1 := (hdr.cell (p := ⟨wo.heap.size, 1, none⟩) (by simp only []; omega) (by simp only []; omega)).trans p_1
        have hm16 := pow_le16 hn4
        have i0 := rI_ints g2
        by_cases hlv : i < vn
        · obtain ⟨b2, o2, v, rfl, hc, hv, hv1, hv2⟩ := i0.get hlv
          have v0_lt : b2 < w.heap.size := cell_lt hc
          have v0 : wr.cell? ⟨b2, o2 + i, none⟩ = some (.int .i64 v) := (hb7.cell (p := ⟨b2, o2 + i, none⟩) v0_lt).trans hc
          clear hc
          by_cases h4 : betw v 0 ((n : Int) - 1) = true
          case neg =>
            replace h4 : betw v 0 ((n : Int) - 1) = false := by simpa using h4
            have HE := Lib.hid (show validQ ((n : Int), xs) = false by rw [hE.out, vars_no (by omega) hv.out (by simp [h4])]; rfl)
            clear i0 hvl hB
            go_wp2_with fail
            refine (within_any _ _ _ _).mono ?_
            rintro e w' ⟨rfl, rfl⟩
            go_wp2_with fail
            go_ret
            exact ⟨ret_bool HE.out.symm, hb7⟩
          have hcall := contains_any (some ⟨b2, o2, none⟩) i vc (vs.take i) v wr ((i0.takeTo (by omega)).below hb7)
          obtain ⟨t, ht⟩ : ∃ t, t = has (vs.take i) v := ⟨_, rfl⟩
          rw [← ht] at hcall
          have HC := Lib.hid hcall
          clear hcall
          have h5 := h4
          simp only [betw, Bool.and_eq_true, decide_eq_true_eq] at h5
          obtain ⟨v, rfl⟩ := Int.eq_ofNat_of_zero_le h5.1
          have hvn : v < n := by omega
          clear h5
          cases t with
          | true =>
            have HE := Lib.hid (show validQ ((n : Int), xs) = false by rw [hE.out, vars_no (by omega) hv.out (by rw [← ht]; simp)]; rfl)
            clear i0 hvl ht hB
            go_wp2_with fail
            refine (within_any _ _ _ _).mono ?_
            rintro e w' ⟨rfl, rfl⟩
            go_wp2_with fail
            refine (HC.out).mono ?_
            rintro e w' ⟨rfl, rfl⟩
            go_wp2_with fail
            go_ret
            exact ⟨ret_bool HE.out.symm, hb7⟩
          | false =>
            have HE := Lib.hid (hE.out.trans (show _ = (varsFrom n (vs.take (i + 1)) (vs.drop (i + 1)) && validFrom n (vbits (m ||| 2 ^ v) (vs.drop (i + 1))) (xs.drop (j + 1))) by rw [vars_yes (by omega) hv.out h4 ht.symm, vbits_at (by omega) hv.out]))
            have hB' := hB.set hvn
            have hk := hB.cell hvn
            have hf := hB.frozen v
            have hmo := or_lt hm hvn
            clear i0 hvl ht hB
            go_wp2_with fail
            refine (within_any _ _ _ _).mono ?_
            rintro e w' ⟨rfl, rfl⟩
            go_wp2_with fail
            refine (HC.out).mono ?_
            rintro e w' ⟨rfl, rfl⟩
            go_wp2_with fail
            go_roundw
            case rel => exact ⟨i + 1, m ||| 2 ^ v, by omega, hmo, by go_num, HE.out, hB', hlo.setCell (Nat.le_refl _) (by simp only []; omega) _⟩
            case measure => simp [intOf]; omega
        · have HE := Lib.hid (show validQ ((n : Int), xs) = validFrom n m (xs.drop (j + 1)) by rw [hE.out, vars_end (by omega), vbits_end (by omega)]; rfl)
          clear i0 hvl
          go_wp2_with fail
          go_roundw
          case rel => exact ⟨j + 1, m, by omega, hm, by go_num, HE.out, hB, hlc⟩
          case measure => simp [intOf]; omega
    · have HE := Lib.hid (hE.out.trans (validFrom_end (by omega)))
      clear t0 hl hE HV
      go_wp2_with fail
      refine (containsBools _ _ _ _ _ hB hn4 hm).mono ?_
      rintro e w' ⟨rfl, rfl⟩
      obtain ⟨t, ht⟩ : ∃ t, t = decide (m = 2 ^ n - 1) := ⟨_, rfl⟩
      rw [← ht] at HE ⊢
      clear ht
      go_wp2_with fail
      go_ret
      exact ⟨ret_bool (by rw [HE.out] <;> simp), hb5⟩

end Go.Proofs.Ytbkoddikfpkocaa

/- Contracts: whether a query is valid: the reference's. -/
namespace Go.Proofs.Ytbkoddikfpkocaa
open Go.RowKit
set_option linter.unusedVariables false
set_option linter.unusedSimpArgs false
set_option synthInstance.maxSize 2000
set_option synthInstance.maxHeartbeats 400000

set_option maxHeartbeats 2000000 in
theorem validQ_spec (cs : List Value) (x : DQ) (w : World) (h : rQ.rep w cs x) :
    Calls Try.prog 117 #[.agg cs.toArray] w fun e w' => e = .returned (.bool (validQ x)) ∧ Below w.heap.size w w' := by
  obtain ⟨ub, un, uc, rfl, hi, g1⟩ := rQ_open h
  clear h
  obtain ⟨i, xs⟩ := x
  simp only at hi g1
  obtain ⟨hi1, hi2⟩ := hi
  have t0 := rS_sl g1
  have hl := t0.len
  have hn := t0.small
  clear t0
  have hb0 : Below w.heap.size w w := Below.refl _ _
  by_cases h1 : betw i 1 4 = true
  case neg =>
    replace h1 : betw i 1 4 = false := by simpa using h1
    have HE := Lib.hid (validQ_no1 (q := (i, xs)) h1)
    go_enter Try.func117, Try.ntmps117
    obtain ⟨w1, hw1⟩ : ∃ W, W = w.alloc (.cells #[.int .i64 i, .slice ub un uc] 46) := ⟨_, rfl⟩
    have z1 : Below w.heap.size w w1 := by rw [hw1]; exact (Below.refl _ _).alloc (Nat.le_refl _) _
    have s1 : w1.heap.size = w.heap.size + 1 := by rw [hw1]; simp
    have hb1 := on hb0 z1
    have b_0 : w1.cell? ⟨w.heap.size, 0, none⟩ = some (.int .i64 i) := by rw [hw1]; exact box_cell (Below.refl _ _) rfl
    have b_1 : w1.cell? ⟨w.heap.size, 1, none⟩ = some (.slice ub un uc) := by rw [hw1]; exact box_cell (Below.refl _ _) rfl
    have raw1_b_0 := b_0
    have raw1_b_1 := b_1
    rw [hw1] at raw1_b_0 raw1_b_1
    go_wp2_with fail
    rw [← hw1]
    clear hw1
    clear raw1_b_0 raw1_b_1
    refine (l1In_any _ _ _ _).mono ?_
    rintro e w' ⟨rfl, rfl⟩
    clear hl
    go_wp2_with fail
    go_ret
    exact ⟨ret_bool HE.out.symm, hb1⟩
  by_cases h2 : betw un 1 4 = true
  case neg =>
    replace h2 : betw un 1 4 = false := by simpa using h2
    have HE := Lib.hid (validQ_no2 (q := (i, xs)) (by simp only []; rw [hl]; exact h2))
    go_enter Try.func117, Try.ntmps117
    obtain ⟨w2, hw2⟩ : ∃ W, W = w.alloc (.cells #[.int .i64 i, .slice ub un uc] 46) := ⟨_, rfl⟩
    have z2 : Below w.heap.size w w2 := by rw [hw2]; exact (Below.refl _ _).alloc (Nat.le_refl _) _
    have s2 : w2.heap.size = w.heap.size + 1 := by rw [hw2]; simp
    have hb2 := on hb0 z2
    have b_0 : w2.cell? ⟨w.heap.size, 0, none⟩ = some (.int .i64 i) := by rw [hw2]; exact box_cell (Below.refl _ _) rfl
    have b_1 : w2.cell? ⟨w.heap.size, 1, none⟩ = some (.slice ub un uc) := by rw [hw2]; exact box_cell (Below.refl _ _) rfl
    have raw2_b_0 := b_0
    have raw2_b_1 := b_1
    rw [hw2] at raw2_b_0 raw2_b_1
    go_wp2_with fail
    rw [← hw2]
    clear hw2
    clear raw2_b_0 raw2_b_1
    refine (l1In_any _ _ _ _).mono ?_
    rintro e w' ⟨rfl, rfl⟩
    go_wp2_with fail
    refine (l1In_any _ _ _ _).mono ?_
    rintro e w' ⟨rfl, rfl⟩
    clear hl
    go_wp2_with fail
    go_ret
    exact ⟨ret_bool HE.out.symm, hb2⟩
  have h3 := h1
  simp only [betw, Bool.and_eq_true, decide_eq_true_eq] at h3
  obtain ⟨n, rfl⟩ := Int.eq_ofNat_of_zero_le (show 0 ≤ i by omega)
  have hn1 : 1 ≤ n ∧ n ≤ 4 := by omega
  obtain ⟨hn1, hn4⟩ := hn1
  clear h3 hi1 hi2
  have HV := Lib.hid (validQ_go (xs := xs) h1 (by rw [hl]; exact h2))
  have H2 := Lib.hid h2
  go_enter Try.func117, Try.ntmps117
  obtain ⟨w3, hw3⟩ : ∃ W, W = w.alloc (.cells #[.int .i64 n, .slice ub un uc] 46) := ⟨_, rfl⟩
  have z3 : Below w.heap.size w w3 := by rw [hw3]; exact (Below.refl _ _).alloc (Nat.le_refl _) _
  have s3 : w3.heap.size = w.heap.size + 1 := by rw [hw3]; simp
  have hb3 := on hb0 z3
  have b_0 : w3.cell? ⟨w.heap.size, 0, none⟩ = some (.int .i64 n) := by rw [hw3]; exact box_cell (Below.refl _ _) rfl
  have b_1 : w3.cell? ⟨w.heap.size, 1, none⟩ = some (.slice ub un uc) := by rw [hw3]; exact box_cell (Below.refl _ _) rfl
  have raw3_b_0 := b_0
  have raw3_b_1 := b_1
  rw [hw3] at raw3_b_0 raw3_b_1
  go_wp2_with fail
  rw [← hw3]
  clear hw3
  clear raw3_b_0 raw3_b_1
  refine (l1In_any _ _ _ _).mono ?_
  rintro e w' ⟨rfl, rfl⟩
  go_wp2_with fail
  refine (l1In_any _ _ _ _).mono ?_
  rintro e w' ⟨rfl, rfl⟩
  go_wp2_with fail
  clear h1 h2
  go_loopw [3, 4] (fun s k wr => ∃ j m : Nat, j ≤ un ∧ m < 2 ^ n ∧ k = .int .i64 j ∧ s = .int .i64 m ∧ Hid (validQ ((n : Int), xs) = validFrom n m (xs.drop j)) ∧ Below w3.heap.size w3 wr) (fun _ k _ => un - (intOf k).toNat)
  case atStart => exact ⟨0, 0, Nat.zero_le _, Nat.two_pow_pos _, rfl, rfl, HV.out, Below.refl _ _⟩
  case round =>
    obtain ⟨j, m, hj, hm, rfl, rfl, hE, hdr⟩ := hrel
    obtain ⟨wo, rfl⟩ : ∃ W, W = wr := ⟨_, rfl⟩
    have hlc := hdr
    have s4 := hdr.size
    have hb4 := on hb3 hdr
    replace b_0 := (hdr.cell (p := ⟨w.heap.size, 0, none⟩) (by simp only []; omega)).trans b_0
    replace b_1 := (hdr.cell (p := ⟨w.heap.size, 1, none⟩) (by simp only []; omega)).trans b_1
    have t0 := rS_sl g1
    have hm16 := pow_le16 hn4
    by_cases hlt : j < un
    · obtain ⟨b1, o1, cs, x, rfl, hx, hr, hc⟩ := t0.at hlt
      obtain ⟨s, vs⟩ := x
      obtain ⟨vb, vn, vc, rfl, hs, g2⟩ := rA_open hr
      simp only at hs g2
      have i0 := rI_ints g2
      have hvl := i0.len
      have hvs := i0.small
      obtain ⟨hvc, hvc2⟩ := rS_cap g2
      have e_lt : b1 < w.heap.size := cell_lt (hc 0 _ rfl)
      have e_0 : wo.cell? ⟨b1, o1 + j * 2, none⟩ = some (.string s) := (hb4.cell (p := ⟨b1, o1 + j * 2, none⟩) e_lt).trans (by have h9 := hc 0 _ rfl; rw [← Nat.add_assoc] at h9; exact h9)
      have e_1 : wo.cell? ⟨b1, o1 + j * 2 + 1, none⟩ = some (.slice vb vn vc) := (hb4.cell (p := ⟨b1, o1 + j * 2 + 1, none⟩) e_lt).trans (by have h9 := hc 1 _ rfl; rw [← Nat.add_assoc] at h9; exact h9)
      have HA := Lib.hid (hE.out.trans (validFrom_at hx.out))
      clear hc t0 hr hl hx hE i0 HV
      obtain ⟨w5, hw5⟩ : ∃ W, W = wo.alloc (.cells #[.string s, .slice vb vn vc] 161) := ⟨_, rfl⟩
      have z5 : Below wo.heap.size wo w5 := by rw [hw5]; exact (Below.refl _ _).alloc (Nat.le_refl _) _
      have s5 : w5.heap.size = wo.heap.size + 1 := by rw [hw5]; simp
      have hb5 := on hb4 z5
      have old5_b_0 := b_0
      have old5_b_1 := b_1
      have old5_e_0 := e_0
      have old5_e_1 := e_1
      replace b_0 := (z5.cell (p := ⟨w.heap.size, 0, none⟩) (by simp only []; omega)).trans b_0
      replace b_1 := (z5.cell (p := ⟨w.heap.size, 1, none⟩) (by simp only []; omega)).trans b_1
      replace hlc := on hlc z5
      replace e_0 := (z5.cell (p := ⟨b1, o1 + j * 2, none⟩) (by simp only []; omega)).trans e_0
      replace e_1 := (z5.cell (p := ⟨b1, o1 + j * 2 + 1, none⟩) (by simp only []; omega)).trans e_1
      have p_0 : w5.cell? ⟨wo.heap.size, 0, none⟩ = some (.string s) := by rw [hw5]; exact box_cell (Below.refl _ _) rfl
      have p_1 : w5.cell? ⟨wo.heap.size, 1, none⟩ = some (.slice vb vn vc) := by rw [hw5]; exact box_cell (Below.refl _ _) rfl
      have raw5_b_0 := b_0
      have raw5_b_1 := b_1
      have raw5_e_0 := e_0
      have raw5_e_1 := e_1
      have raw5_p_0 := p_0
      have raw5_p_1 := p_1
      rw [hw5] at raw5_b_0 raw5_b_1 raw5_e_0 raw5_e_1 raw5_p_0 raw5_p_1
      by_cases h1 : nameB s = true
      case neg =>
        replace h1 : nameB s = false := by simpa using h1
        have HE := Lib.hid (show validQ ((n : Int), xs) = false by rw [HA.out]; simp [h1])
        go_wp2_with fail
        rw [← hw5]
        clear hw5
        clear old5_b_0 old5_b_1 old5_e_0 old5_e_1 raw5_b_0 raw5_b_1 raw5_e_0 raw5_e_1 raw5_p_0 raw5_p_1
        refine (l4Name_any _ _ hs).mono ?_
        rintro e w' ⟨rfl, rfl⟩
        go_wp2_with fail
        go_ret
        exact ⟨ret_bool HE.out.symm, hb5⟩
      by_cases h2 : betw vn 1 3 = true
      case neg =>
        replace h2 : betw vn 1 3 = false := by simpa using h2
        have HE := Lib.hid (show validQ ((n : Int), xs) = false by rw [HA.out]; simp [hvl, h2])
        go_wp2_with fail
        rw [← hw5]
        clear hw5
        clear old5_b_0 old5_b_1 old5_e_0 old5_e_1 raw5_b_0 raw5_b_1 raw5_e_0 raw5_e_1 raw5_p_0 raw5_p_1
        refine (l4Name_any _ _ hs).mono ?_
        rintro e w' ⟨rfl, rfl⟩
        go_wp2_with fail
        refine (l1In_any _ _ _ _).mono ?_
        rintro e w' ⟨rfl, rfl⟩
        go_wp2_with fail
        go_ret
        exact ⟨ret_bool HE.out.symm, hb5⟩
      have HA2 := Lib.hid (show validQ ((n : Int), xs) = (varsFrom n (vs.take 0) (vs.drop 0) && validFrom n (vbits m (vs.drop 0)) (xs.drop (j + 1))) by rw [HA.out]; simp [h1, hvl, h2])
      clear HA
      go_wp2_with fail
      rw [← hw5]
      clear hw5
      clear old5_b_0 old5_b_1 old5_e_0 old5_e_1 raw5_b_0 raw5_b_1 raw5_e_0 raw5_e_1 raw5_p_0 raw5_p_1
      refine (l4Name_any _ _ hs).mono ?_
      rintro e w' ⟨rfl, rfl⟩
      go_wp2_with fail
      refine (l1In_any _ _ _ _).mono ?_
      rintro e w' ⟨rfl, rfl⟩
      have h3 := h2
      simp only [betw, Bool.and_eq_true, decide_eq_true_eq] at h3
      go_wp2_with fail
      clear h1 h2
      go_loopw [3, 6] (fun s k wr => ∃ i m : Nat, i ≤ vn ∧ m < 2 ^ n ∧ k = .int .i64 i ∧ s = .int .i64 m ∧ Hid (validQ ((n : Int), xs) = (varsFrom n (vs.take i) (vs.drop i) && validFrom n (vbits m (vs.drop i)) (xs.drop (j + 1)))) ∧ Drew w5 wr) (fun _ k _ => vn - (intOf k).toNat)
      case atStart => exact ⟨0, m, Nat.zero_le _, hm, rfl, rfl, HA2.out, Drew.refl _⟩
      case round =>
        obtain ⟨i, m, hi, hm, rfl, rfl, hE, hdr⟩ := hrel
        have hlo := hdr
        replace hdr : Below w5.heap.size w5 wr := hdr.below _
        have s6 := hdr.size
        have hb6 := on hb5 hdr
        replace b_0 := (hdr.cell (p := ⟨w.heap.size, 0, none⟩) (by simp only []; omega)).trans b_0
        replace b_1 := (hdr.cell (p := ⟨w.heap.size, 1, none⟩) (by simp only []; omega)).trans b_1
        replace hlc := on hlc hdr
        replace e_0 := (hdr.cell (p := ⟨b1, o1 + j * 2, none⟩) (by simp only []; omega)).trans e_0
        replace e_1 := (hdr.cell (p := ⟨b1, o1 + j * 2 + 1, none⟩) (by simp only []; omega)).trans e_1
        replace p_0 := (hdr.cell (p := ⟨wo.heap.size, 0, none⟩) (by simp only []; omega)).trans p_0
        replace p_1 := (hdr.cell (p := ⟨wo.heap.size, 1, none⟩) (by simp only []; omega)).trans p_1
        have hm16 := pow_le16 hn4
        have i0 := rI_ints g2
        by_cases hlv : i < vn
        · obtain ⟨b2, o2, v, rfl, hc, hv, hv1, hv2⟩ := i0.get hlv
          have v0_lt : b2 < w.heap.size := cell_lt hc
          have v0 : wr.cell? ⟨b2, o2 + i, none⟩ = some (.int .i64 v) := (hb6.cell (p := ⟨b2, o2 + i, none⟩) v0_lt).trans hc
          clear hc
          by_cases h4 : betw v 0 ((n : Int) - 1) = true
          case neg =>
            replace h4 : betw v 0 ((n : Int) - 1) = false := by simpa using h4
            have HE := Lib.hid (show validQ ((n : Int), xs) = false by rw [hE.out, vars_no (by omega) hv.out (by simp [h4])]; rfl)
            clear i0 hvl
            go_wp2_with fail
            go_quiet ((go_at_call 98; exact quiet_same (l1In_any _ _ _ _)))
            go_wp2_with fail
            go_ret
            exact ⟨ret_bool HE.out.symm, onD hb6 ⟨_, rfl⟩⟩
          have hcall := fun q => l7Has_any (some ⟨b2, o2, none⟩) i vc (vs.take i) v (wr.drewN q) (((i0.takeTo (by omega)).below hb6).drewN q)
          obtain ⟨t, ht⟩ : ∃ t, t = has (vs.take i) v := ⟨_, rfl⟩
          rw [← ht] at hcall
          have HC := Lib.hid hcall
          clear hcall
          have h5 := h4
          simp only [betw, Bool.and_eq_true, decide_eq_true_eq] at h5
          obtain ⟨v, rfl⟩ := Int.eq_ofNat_of_zero_le h5.1
          have hvn : v < n := by omega
          clear h5
          cases t with
          | true =>
            have HE := Lib.hid (show validQ ((n : Int), xs) = false by rw [hE.out, vars_no (by omega) hv.out (by rw [← ht]; simp)]; rfl)
            clear i0 hvl ht
            go_wp2_with fail
            go_quiet ((first | (go_at_call 98; exact quiet_same (l1In_any _ _ _ _)) | (go_at_call 119; exact quiet_same (HC.out _))))
            go_wp2_with fail
            go_ret
            exact ⟨ret_bool HE.out.symm, onD hb6 ⟨_, rfl⟩⟩
          | false =>
            have HE := Lib.hid (hE.out.trans (show _ = (varsFrom n (vs.take (i + 1)) (vs.drop (i + 1)) && validFrom n (vbits (m ||| 2 ^ v) (vs.drop (i + 1))) (xs.drop (j + 1))) by rw [vars_yes (by omega) hv.out h4 ht.symm, vbits_at (by omega) hv.out]))
            have hmo := or_lt hm hvn
            clear i0 hvl ht
            go_wp2_with fail
            go_quiet ((first | (go_at_call 98; exact quiet_same (l1In_any _ _ _ _)) | (go_at_call 119; exact quiet_same (HC.out _))))
            go_wp2_with fail
            go_roundw
            case rel => exact ⟨i + 1, m ||| 2 ^ v, by omega, hmo, by go_num, by show Value.int _ _ = _; first | (rw [or_pow (by omega) (by omega)]) | (rw [← or_pow (m := m) (v := v) (by omega) (by omega)]; rfl), HE.out, hlo.step _⟩
            case measure => simp [intOf]; omega
        · have HE := Lib.hid (show validQ ((n : Int), xs) = validFrom n m (xs.drop (j + 1)) by rw [hE.out, vars_end (by omega), vbits_end (by omega)]; rfl)
          clear i0 hvl
          go_wp2_with fail
          go_roundw
          case rel => exact ⟨j + 1, m, by omega, hm, by go_num, rfl, HE.out, hlc⟩
          case measure => simp [intOf]; omega
    · have HE := Lib.hid (hE.out.trans (validFrom_end (by omega)))
      clear t0 hl hE HV
      go_wp2_with fail
      go_ret
      exact ⟨ret_bool (by rw [HE.out]; exact full_eq (by omega)), hb4⟩

end Go.Proofs.Ytbkoddikfpkocaa

/- Contracts: masks of a query, and their variables. -/
namespace Go.Proofs.Ytbkoddikfpkocaa
open Go.RowKit
set_option linter.unusedVariables false
set_option linter.unusedSimpArgs false
set_option synthInstance.maxSize 2000
set_option synthInstance.maxHeartbeats 400000

theorem full_int {n : Nat} (hn : n ≤ 16) : wrap64 (wrap64 ((2 : Int) ^ n) - 1) = ((2 ^ n - 1 : Nat) : Int) := by
  have h1 := Nat.pow_le_pow_right (show 0 < 2 by omega) hn
  have h2 := Nat.two_pow_pos n
  rw [wrap_pow hn]
  generalize 2 ^ n = p at h1 h2
  rw [IntWalk.wrap64_in _ ⟨by omega, by omega⟩]
  omega
theorem fullMask_no {q : DQ} (h : validQ q = false) : fullMask q = 0 := by simp [fullMask, h]
theorem fullMask_yes {q : DQ} (h : validQ q = true) : fullMask q = ((2 ^ q.2.length - 1 : Nat) : Int) := by simp [fullMask, h]

set_option maxHeartbeats 800000 in
theorem fullMask_impl (cs : List Value) (x : DQ) (w : World) (h : rQ.rep w cs x) :
    Calls Try.prog 40 #[.agg cs.toArray] w fun e w' => e = .returned (.int .i64 (fullMask x)) ∧ Below w.heap.size w w' := by
  obtain ⟨ub, un, uc, rfl, hi, g1⟩ := rQ_open h
  have hl := (rS_sl g1).len
  clear g1 hi
  have hb0 : Below w.heap.size w w := Below.refl _ _
  go_enter Try.func40, Try.ntmps40
  obtain ⟨w1, hw1⟩ : ∃ W, W = w.alloc (.cells #[.int .i64 x.1, .slice ub un uc] 46) := ⟨_, rfl⟩
  have z1 : Below w.heap.size w w1 := by rw [hw1]; exact (Below.refl _ _).alloc (Nat.le_refl _) _
  have s1 : w1.heap.size = w.heap.size + 1 := by rw [hw1]; simp
  have hb1 := on hb0 z1
  have b_0 : w1.cell? ⟨w.heap.size, 0, none⟩ = some (.int .i64 x.1) := by rw [hw1]; exact box_cell (Below.refl _ _) rfl
  have b_1 : w1.cell? ⟨w.heap.size, 1, none⟩ = some (.slice ub un uc) := by rw [hw1]; exact box_cell (Below.refl _ _) rfl
  have raw1_b_0 := b_0
  have raw1_b_1 := b_1
  rw [hw1] at raw1_b_0 raw1_b_1
  go_wp2_with fail
  rw [← hw1]
  clear hw1
  clear raw1_b_0 raw1_b_1
  refine (validQ_impl _ x _ (rQ.mono h hb1)).mono ?_
  rintro e w2 ⟨rfl, z2⟩
  have s3 := z2.size
  have hb3 := on hb1 z2
  replace b_0 := (z2.cell (p := ⟨w.heap.size, 0, none⟩) (by simp only []; omega)).trans b_0
  replace b_1 := (z2.cell (p := ⟨w.heap.size, 1, none⟩) (by simp only []; omega)).trans b_1
  by_cases hv : validQ x = true
  case neg =>
    replace hv : validQ x = false := by simpa using hv
    have HE := Lib.hid (fullMask_no hv)
    clear hl
    go_wp2_with fail
    go_ret
    exact ⟨ret_int HE.out.symm, hb3⟩
  have h9 : un ≤ 16 := by obtain ⟨n, hq⟩ := QOk.of hv; have := hq.len; omega
  have HE := Lib.hid (show wrap64 (wrap64 ((2 : Int) ^ un) - 1) = fullMask x by rw [full_int h9, fullMask_yes hv, hl])
  clear hl
  go_wp2_with fail
  go_ret
  exact ⟨ret_int HE.out, hb3⟩

set_option maxHeartbeats 800000 in
theorem fullMask_spec (cs : List Value) (x : DQ) (w : World) (h : rQ.rep w cs x) :
    Calls Try.prog 41 #[.agg cs.toArray] w fun e w' => e = .returned (.int .i64 (fullMask x)) ∧ Below w.heap.size w w' := by
  obtain ⟨ub, un, uc, rfl, hi, g1⟩ := rQ_open h
  have hl := (rS_sl g1).len
  clear g1 hi
  have hb0 : Below w.heap.size w w := Below.refl _ _
  go_enter Try.func41, Try.ntmps41
  obtain ⟨w1, hw1⟩ : ∃ W, W = w.alloc (.cells #[.int .i64 x.1, .slice ub un uc] 46) := ⟨_, rfl⟩
  have z1 : Below w.heap.size w w1 := by rw [hw1]; exact (Below.refl _ _).alloc (Nat.le_refl _) _
  have s1 : w1.heap.size = w.heap.size + 1 := by rw [hw1]; simp
  have hb1 := on hb0 z1
  have b_0 : w1.cell? ⟨w.heap.size, 0, none⟩ = some (.int .i64 x.1) := by rw [hw1]; exact box_cell (Below.refl _ _) rfl
  have b_1 : w1.cell? ⟨w.heap.size, 1, none⟩ = some (.slice ub un uc) := by rw [hw1]; exact box_cell (Below.refl _ _) rfl
  have raw1_b_0 := b_0
  have raw1_b_1 := b_1
  rw [hw1] at raw1_b_0 raw1_b_1
  go_wp2_with fail
  rw [← hw1]
  clear hw1
  clear raw1_b_0 raw1_b_1
  refine (validQ_spec _ x _ (rQ.mono h hb1)).mono ?_
  rintro e w2 ⟨rfl, z2⟩
  have s3 := z2.size
  have hb3 := on hb1 z2
  replace b_0 := (z2.cell (p := ⟨w.heap.size, 0, none⟩) (by simp only []; omega)).trans b_0
  replace b_1 := (z2.cell (p := ⟨w.heap.size, 1, none⟩) (by simp only []; omega)).trans b_1
  by_cases hv : validQ x = true
  case neg =>
    replace hv : validQ x = false := by simpa using hv
    have HE := Lib.hid (fullMask_no hv)
    clear hl
    go_wp2_with fail
    go_ret
    exact ⟨ret_int HE.out.symm, hb3⟩
  have h9 : un ≤ 16 := by obtain ⟨n, hq⟩ := QOk.of hv; have := hq.len; omega
  have HE := Lib.hid (show wrap64 (wrap64 ((2 : Int) ^ un) - 1) = fullMask x by rw [full_int h9, fullMask_yes hv, hl])
  clear hl
  go_wp2_with fail
  go_ret
  exact ⟨ret_int HE.out, hb3⟩

set_option maxHeartbeats 800000 in
theorem maskOk_impl (cs : List Value) (x : DQ) (k : Int) (w : World) (h : rQ.rep w cs x) :
    Calls Try.prog 114 #[.agg cs.toArray, .int .i64 k] w fun e w' => e = .returned (.bool (maskOkB x k)) ∧ Below w.heap.size w w' := by
  obtain ⟨ub, un, uc, rfl, hi, g1⟩ := rQ_open h
  have hl := (rS_sl g1).len
  clear g1 hi
  have hb0 : Below w.heap.size w w := Below.refl _ _
  go_enter Try.func114, Try.ntmps114
  obtain ⟨w1, hw1⟩ : ∃ W, W = w.alloc (.cells #[.int .i64 x.1, .slice ub un uc] 46) := ⟨_, rfl⟩
  have z1 : Below w.heap.size w w1 := by rw [hw1]; exact (Below.refl _ _).alloc (Nat.le_refl _) _
  have s1 : w1.heap.size = w.heap.size + 1 := by rw [hw1]; simp
  have hb1 := on hb0 z1
  have b_0 : w1.cell? ⟨w.heap.size, 0, none⟩ = some (.int .i64 x.1) := by rw [hw1]; exact box_cell (Below.refl _ _) rfl
  have b_1 : w1.cell? ⟨w.heap.size, 1, none⟩ = some (.slice ub un uc) := by rw [hw1]; exact box_cell (Below.refl _ _) rfl
  have raw1_b_0 := b_0
  have raw1_b_1 := b_1
  rw [hw1] at raw1_b_0 raw1_b_1
  go_wp2_with fail
  rw [← hw1]
  clear hw1
  clear raw1_b_0 raw1_b_1
  refine (validQ_impl _ x _ (rQ.mono h hb1)).mono ?_
  rintro e w2 ⟨rfl, z2⟩
  have s3 := z2.size
  have hb3 := on hb1 z2
  replace b_0 := (z2.cell (p := ⟨w.heap.size, 0, none⟩) (by simp only []; omega)).trans b_0
  replace b_1 := (z2.cell (p := ⟨w.heap.size, 1, none⟩) (by simp only []; omega)).trans b_1
  by_cases hv : validQ x = true
  case neg =>
    replace hv : validQ x = false := by simpa using hv
    have HE := Lib.hid (show maskOkB x k = false by simp [maskOkB, hv])
    clear hl
    go_wp2_with fail
    go_ret
    exact ⟨ret_bool HE.out.symm, hb3⟩
  have h9 : un ≤ 16 := by obtain ⟨n, hq⟩ := QOk.of hv; have := hq.len; omega
  have HE := Lib.hid (show betw k 0 (wrap64 (wrap64 ((2 : Int) ^ un) - 1)) = maskOkB x k by rw [full_int h9, ← hl]; simp [maskOkB, hv])
  clear hl
  go_wp2_with fail
  refine (within_any _ _ _ _).mono ?_
  rintro e w' ⟨rfl, rfl⟩
  obtain ⟨t, ht⟩ : ∃ t, t = betw k 0 (wrap64 (wrap64 ((2 : Int) ^ un) - 1)) := ⟨_, rfl⟩
  rw [← ht] at HE ⊢
  clear ht
  go_wp2_with fail
  go_ret
  exact ⟨ret_bool HE.out, hb3⟩

set_option maxHeartbeats 800000 in
theorem maskOk_spec (cs : List Value) (x : DQ) (k : Int) (w : World) (h : rQ.rep w cs x) :
    Calls Try.prog 115 #[.agg cs.toArray, .int .i64 k] w fun e w' => e = .returned (.bool (maskOkB x k)) ∧ Below w.heap.size w w' := by
  obtain ⟨ub, un, uc, rfl, hi, g1⟩ := rQ_open h
  have hl := (rS_sl g1).len
  clear g1 hi
  have hb0 : Below w.heap.size w w := Below.refl _ _
  go_enter Try.func115, Try.ntmps115
  obtain ⟨w1, hw1⟩ : ∃ W, W = w.alloc (.cells #[.int .i64 x.1, .slice ub un uc] 46) := ⟨_, rfl⟩
  have z1 : Below w.heap.size w w1 := by rw [hw1]; exact (Below.refl _ _).alloc (Nat.le_refl _) _
  have s1 : w1.heap.size = w.heap.size + 1 := by rw [hw1]; simp
  have hb1 := on hb0 z1
  have b_0 : w1.cell? ⟨w.heap.size, 0, none⟩ = some (.int .i64 x.1) := by rw [hw1]; exact box_cell (Below.refl _ _) rfl
  have b_1 : w1.cell? ⟨w.heap.size, 1, none⟩ = some (.slice ub un uc) := by rw [hw1]; exact box_cell (Below.refl _ _) rfl
  have raw1_b_0 := b_0
  have raw1_b_1 := b_1
  rw [hw1] at raw1_b_0 raw1_b_1
  go_wp2_with fail
  rw [← hw1]
  clear hw1
  clear raw1_b_0 raw1_b_1
  refine (validQ_spec _ x _ (rQ.mono h hb1)).mono ?_
  rintro e w2 ⟨rfl, z2⟩
  have s3 := z2.size
  have hb3 := on hb1 z2
  replace b_0 := (z2.cell (p := ⟨w.heap.size, 0, none⟩) (by simp only []; omega)).trans b_0
  replace b_1 := (z2.cell (p := ⟨w.heap.size, 1, none⟩) (by simp only []; omega)).trans b_1
  by_cases hv : validQ x = true
  case neg =>
    replace hv : validQ x = false := by simpa using hv
    have HE := Lib.hid (show maskOkB x k = false by simp [maskOkB, hv])
    clear hl
    go_wp2_with fail
    go_ret
    exact ⟨ret_bool HE.out.symm, hb3⟩
  have h9 : un ≤ 16 := by obtain ⟨n, hq⟩ := QOk.of hv; have := hq.len; omega
  have HE := Lib.hid (show betw k 0 (wrap64 (wrap64 ((2 : Int) ^ un) - 1)) = maskOkB x k by rw [full_int h9, ← hl]; simp [maskOkB, hv])
  clear hl
  go_wp2_with fail
  refine (l1In_any _ _ _ _).mono ?_
  rintro e w' ⟨rfl, rfl⟩
  obtain ⟨t, ht⟩ : ∃ t, t = betw k 0 (wrap64 (wrap64 ((2 : Int) ^ un) - 1)) := ⟨_, rfl⟩
  rw [← ht] at HE ⊢
  clear ht
  go_wp2_with fail
  go_ret
  exact ⟨ret_bool HE.out, hb3⟩

end Go.Proofs.Ytbkoddikfpkocaa

/- Contracts: the variables of a mask. -/
namespace Go.Proofs.Ytbkoddikfpkocaa
open Go.RowKit
set_option linter.unusedVariables false
set_option linter.unusedSimpArgs false
set_option synthInstance.maxSize 2000
set_option synthInstance.maxHeartbeats 400000

set_option maxHeartbeats 1000000 in
theorem l7Bits_any (cs : List Value) (x : DQ) (K n : Nat) (w : World) (h : rQ.rep w cs x) (hq : QOk x n) (hK : K < 16) :
    Calls Try.prog 177 #[.agg cs.toArray, .int .i64 K] w fun e w' => e = .returned (.int .i64 (bitsOf x K)) ∧ Below w.heap.size w w' := by
  obtain ⟨ub, un, uc, rfl, hi, g1⟩ := rQ_open h
  clear h hi
  obtain ⟨i, xs⟩ := x
  simp only at g1
  have t0 := rS_sl g1
  have hl := t0.len
  have hn4 := hq.le
  have hl4 := hq.len
  simp only at hl4
  have hun : un ≤ 4 := by omega
  have HQ := Lib.hid hq
  have HB := Lib.hid (show bitsOf (i, xs) K = qbits K 0 0 (xs.drop 0) by simp [bitsOf])
  clear hq hl4
  have hb0 : Below w.heap.size w w := Below.refl _ _
  go_enter Try.func177, Try.ntmps177
  obtain ⟨w1, hw1⟩ : ∃ W, W = w.alloc (.cells #[.int .i64 i, .slice ub un uc] 46) := ⟨_, rfl⟩
  have z1 : Below w.heap.size w w1 := by rw [hw1]; exact (Below.refl _ _).alloc (Nat.le_refl _) _
  have s1 : w1.heap.size = w.heap.size + 1 := by rw [hw1]; simp
  have hb1 := on hb0 z1
  have b_0 : w1.cell? ⟨w.heap.size, 0, none⟩ = some (.int .i64 i) := by rw [hw1]; exact box_cell (Below.refl _ _) rfl
  have b_1 : w1.cell? ⟨w.heap.size, 1, none⟩ = some (.slice ub un uc) := by rw [hw1]; exact box_cell (Below.refl _ _) rfl
  have raw1_b_0 := b_0
  have raw1_b_1 := b_1
  rw [hw1] at raw1_b_0 raw1_b_1
  go_wp2_with fail
  rw [← hw1]
  clear hw1
  clear raw1_b_0 raw1_b_1
  go_loopw [5, 6] (fun s k wr => ∃ j m : Nat, j ≤ un ∧ m < 2 ^ n ∧ k = .int .i64 j ∧ s = .int .i64 m ∧ Hid (bitsOf (i, xs) K = qbits K m j (xs.drop j)) ∧ Drew w1 wr) (fun _ k _ => un - (intOf k).toNat)
  case atStart => exact ⟨0, 0, Nat.zero_le _, Nat.two_pow_pos _, rfl, rfl, HB.out, Drew.refl _⟩
  case round =>
    obtain ⟨j, m, hj, hm, rfl, rfl, hE, hdr⟩ := hrel
    obtain ⟨wo, rfl⟩ : ∃ W, W = wr := ⟨_, rfl⟩
    have hlc := hdr
    replace hdr : Below w1.heap.size w1 wo := hdr.below _
    have s2 := hdr.size
    have hb2 := on hb1 hdr
    replace b_0 := (hdr.cell (p := ⟨w.heap.size, 0, none⟩) (by simp only []; omega)).trans b_0
    replace b_1 := (hdr.cell (p := ⟨w.heap.size, 1, none⟩) (by simp only []; omega)).trans b_1
    by_cases hlt : j < un
    · obtain ⟨b1, o1, cs, x, rfl, hx, hr, hc⟩ := t0.at hlt
      obtain ⟨s, vs⟩ := x
      obtain ⟨vb, vn, vc, rfl, hs, g2⟩ := rA_open hr
      simp only at hs g2
      have i0 := rI_ints g2
      have hvl := i0.len
      have hvs := i0.small
      have e_lt : b1 < w.heap.size := cell_lt (hc 0 _ rfl)
      have e_0 : wo.cell? ⟨b1, o1 + j * 2, none⟩ = some (.string s) := (hb2.cell (p := ⟨b1, o1 + j * 2, none⟩) e_lt).trans (by have h9 := hc 0 _ rfl; rw [← Nat.add_assoc] at h9; exact h9)
      have e_1 : wo.cell? ⟨b1, o1 + j * 2 + 1, none⟩ = some (.slice vb vn vc) := (hb2.cell (p := ⟨b1, o1 + j * 2 + 1, none⟩) e_lt).trans (by have h9 := hc 1 _ rfl; rw [← Nat.add_assoc] at h9; exact h9)
      have HA := Lib.hid (hE.out.trans (qbits_at hx.out))
      have HV := Lib.hid (HQ.out.vars _ (List.mem_of_getElem? hx.out))
      clear hc t0 hr hl hx hE HB
      simp only at HA HV
      have hbt := bit_test K j (by omega)
      cases hb : bitAt K j with
      | true =>
        rw [hb] at HA hbt
        replace HA : Hid (bitsOf (i, xs) K = qbits K (vbits m (vs.drop 0)) (j + 1) (xs.drop (j + 1))) := Lib.hid (by rw [HA.out]; simp)
        clear hb
        go_wp2_with fail
        go_loopw [5, 7] (fun s k wr => ∃ i' m : Nat, i' ≤ vn ∧ m < 2 ^ n ∧ k = .int .i64 i' ∧ s = .int .i64 m ∧ Hid (bitsOf (i, xs) K = qbits K (vbits m (vs.drop i')) (j + 1) (xs.drop (j + 1))) ∧ Drew wo wr) (fun _ k _ => vn - (intOf k).toNat)
        case atStart => exact ⟨0, m, Nat.zero_le _, hm, rfl, rfl, HA.out, Drew.refl _⟩
        case round =>
          obtain ⟨i', m, hi, hm, rfl, rfl, hE, hdr⟩ := hrel
          have hlo := hdr
          replace hdr : Below wo.heap.size wo wr := hdr.below _
          have s3 := hdr.size
          have hb3 := on hb2 hdr
          replace b_0 := (hdr.cell (p := ⟨w.heap.size, 0, none⟩) (by simp only []; omega)).trans b_0
          replace b_1 := (hdr.cell (p := ⟨w.heap.size, 1, none⟩) (by simp only []; omega)).trans b_1
          replace e_0 := (hdr.cell (p := ⟨b1, o1 + j * 2, none⟩) (by simp only []; omega)).trans e_0
          replace e_1 := (hdr.cell (p := ⟨b1, o1 + j * 2 + 1, none⟩) (by simp only []; omega)).trans e_1
          have hm16 := pow_le16 hn4
          by_cases hlv : i' < vn
          · obtain ⟨b2, o2, v, rfl, hc, hv, hv1, hv2⟩ := i0.get hlv
            have v0_lt : b2 < w.heap.size := cell_lt hc
            have v0 : wr.cell? ⟨b2, o2 + i', none⟩ = some (.int .i64 v) := (hb3.cell (p := ⟨b2, o2 + i', none⟩) v0_lt).trans hc
            clear hc
            have hvr := HV.out v (by rw [← hv.out]; exact List.getD_eq_getElem?_getD (l := vs) ▸ (by rw [List.getElem?_eq_getElem (by omega)]; exact List.getElem_mem _))
            obtain ⟨v, rfl⟩ := Int.eq_ofNat_of_zero_le hvr.1
            have hvn : v < n := by omega
            have HE := Lib.hid (hE.out.trans (show _ = qbits K (vbits (m ||| 2 ^ v) (vs.drop (i' + 1))) (j + 1) (xs.drop (j + 1)) by rw [vbits_at (by omega) hv.out]))
            have hmo := or_lt hm hvn
            clear i0 hvl hvr hv hE
            go_wp2_with fail
            go_roundw
            case rel => exact ⟨i' + 1, m ||| 2 ^ v, by omega, hmo, by go_num, by show Value.int _ _ = _; rw [or_pow (by omega) (by omega)], HE.out, hlo⟩
            case measure => simp [intOf]; omega
          · have HE := Lib.hid (show bitsOf (i, xs) K = qbits K m (j + 1) (xs.drop (j + 1)) by rw [hE.out, vbits_end (by omega)])
            clear i0 hvl hE
            go_wp2_with fail
            go_roundw
            case rel => exact ⟨j + 1, m, by omega, hm, by go_num, rfl, HE.out, hlc.trans hlo⟩
            case measure => simp [intOf]; omega
      | false =>
        rw [hb] at HA hbt
        replace HA : Hid (bitsOf (i, xs) K = qbits K m (j + 1) (xs.drop (j + 1))) := Lib.hid (by rw [HA.out]; simp)
        clear hb
        go_wp2_with fail
        go_loopw [5, 7] (fun s k wr => k = .int .i64 0 ∧ s = .int .i64 m ∧ wr = wo) (fun _ _ _ => 0)
        case atStart => exact ⟨rfl, rfl, rfl⟩
        case round =>
          obtain ⟨rfl, rfl, rfl⟩ := hrel
          clear i0 hvl
          by_cases hv0 : 0 < vn
          all_goals
            go_wp2_with fail
            go_roundw
            case rel => exact ⟨j + 1, m, by omega, hm, by go_num, rfl, HA.out, hlc⟩
            case measure => simp [intOf]; omega
    · have HE := Lib.hid (hE.out.trans (qbits_end (by omega)))
      clear t0 hl hE HB
      go_wp2_with fail
      go_ret
      exact ⟨ret_int (by rw [HE.out]), hb2⟩

set_option maxHeartbeats 1000000 in
theorem l7List_any (M : Nat) (w : World) (hM : M < 16) :
    Calls Try.prog 176 #[.int .i64 M] w fun e w' => ∃ b n c, e = .returned (.slice b n c) ∧ OwnInts w.heap.size w' (.slice b n c) n (bitsTo M 4) ∧ Below w.heap.size w w' := by
  go_enter Try.func176, Try.ntmps176
  go_wp2
  go_loopw [3, 4] (fun v i wr => ∃ (j : Nat), j ≤ 4 ∧ i = .int .i64 j ∧ ∃ n, OwnInts w.heap.size wr v n (bitsTo M j) ∧ Below w.heap.size w wr) (fun _ i _ => 4 - (intOf i).toNat)
  case atStart => exact ⟨0, Nat.zero_le _, rfl, 0, own_empty (Nat.le_refl _), (Below.refl _ _).alloc (Nat.le_refl _) _⟩
  case round =>
    obtain ⟨j, hj, rfl, n, hown, hbl⟩ := hrel
    have hsz := hbl.size
    have hn4 : n ≤ 4 := by have := hown.len; have := bitsTo_len M j; omega
    by_cases hlt : j < 4
    · cases hbit : bitAt M j with
      | true =>
        have ht := bit_test M j (by omega)
        rw [hbit] at ht
        have HB := Lib.hid hbit
        clear hbit
        go_wp2_with ((at_builtin; refine wpList_app1 _ _ _ _ _ _ hown hbl hsz ⟨by omega, by omega⟩ (by omega) rfl rfl rfl rfl ?_; intro v' w1 hown' hb' hsz'))
        rw [← bitsTo_yes HB.out] at hown'
        go_roundw
        case rel => exact ⟨j + 1, by omega, by go_num, n + 1, hown', hb'⟩
        case measure => simp [intOf]; omega
      | false =>
        have ht := bit_test M j (by omega)
        rw [hbit] at ht
        rw [← bitsTo_no hbit] at hown
        have HO := Lib.hid hown
        clear hbit hown
        go_wp2_with fail
        go_roundw
        case rel => exact ⟨j + 1, by omega, by go_num, n, HO.out, hbl⟩
        case measure => simp [intOf]; omega
    · obtain rfl : j = 4 := by omega
      obtain ⟨a, cap, rfl, _⟩ := own_form hown.row
      go_wp2
      go_ret
      exact ⟨_, _, _, rfl, hown, hbl⟩

set_option maxHeartbeats 1000000 in
theorem maskVars_spec (cs : List Value) (x : DQ) (k : Int) (w : World) (h : rQ.rep w cs x) :
    Calls Try.prog 118 #[.agg cs.toArray, .int .i64 k] w fun e w' => ∃ u, e = .returned u ∧ Own oI w.heap.size w'.heap.size w' [u] (maskVars x k) ∧ Below w.heap.size w w' := by
  obtain ⟨ub, un, uc, rfl⟩ := rQ_form h
  have hb0 : Below w.heap.size w w := Below.refl _ _
  go_enter Try.func118, Try.ntmps118
  obtain ⟨w1, hw1⟩ : ∃ W, W = w.alloc (.cells #[.int .i64 x.1, .slice ub un uc] 46) := ⟨_, rfl⟩
  have z1 : Below w.heap.size w w1 := by rw [hw1]; exact (Below.refl _ _).alloc (Nat.le_refl _) _
  have s1 : w1.heap.size = w.heap.size + 1 := by rw [hw1]; simp
  have hb1 := on hb0 z1
  have b_0 : w1.cell? ⟨w.heap.size, 0, none⟩ = some (.int .i64 x.1) := by rw [hw1]; exact box_cell (Below.refl _ _) rfl
  have b_1 : w1.cell? ⟨w.heap.size, 1, none⟩ = some (.slice ub un uc) := by rw [hw1]; exact box_cell (Below.refl _ _) rfl
  have raw1_b_0 := b_0
  have raw1_b_1 := b_1
  rw [hw1] at raw1_b_0 raw1_b_1
  go_wp2_with fail
  rw [← hw1]
  clear hw1
  clear raw1_b_0 raw1_b_1
  refine (maskOk_spec _ x k _ (rQ.mono h hb1)).mono ?_
  rintro e w2 ⟨rfl, z2⟩
  have s3 := z2.size
  have hb3 := on hb1 z2
  replace b_0 := (z2.cell (p := ⟨w.heap.size, 0, none⟩) (by simp only []; omega)).trans b_0
  replace b_1 := (z2.cell (p := ⟨w.heap.size, 1, none⟩) (by simp only []; omega)).trans b_1
  by_cases hv : maskOkB x k = true
  case neg =>
    replace hv : maskOkB x k = false := by simpa using hv
    have HE := Lib.hid (maskVars_no hv)
    go_wp2_with fail
    go_ret
    exact ⟨_, rfl, by rw [HE.out]; exact ((own_empty (Nat.le_refl _)).own).mono (by omega) (Nat.le_refl _), hb3.trans ((Below.refl _ _).alloc (by omega) _)⟩
  obtain ⟨K, rfl, hK⟩ := maskOkB_lt hv
  obtain ⟨n, hq⟩ := QOk.of (maskOkB_valid hv)
  have HE := Lib.hid (maskVars_yes hv)
  have HK := pow_le16 hq.len
  have hK16 : K < 16 := by omega
  clear hK HK
  go_wp2_with fail
  refine (l7Bits_any _ x K n _ (rQ.mono h hb3) hq hK16).mono ?_
  rintro e w4 ⟨rfl, z4⟩
  have s5 := z4.size
  have hb5 := on hb3 z4
  replace b_0 := (z4.cell (p := ⟨w.heap.size, 0, none⟩) (by simp only []; omega)).trans b_0
  replace b_1 := (z4.cell (p := ⟨w.heap.size, 1, none⟩) (by simp only []; omega)).trans b_1
  have hb16 : bitsOf x K < 16 := Nat.lt_of_lt_of_le (hq.bits_lt K) (pow_le16 hq.le)
  have HQ := Lib.hid hq
  clear hq
  go_wp2_with fail
  refine (l7List_any _ _ hb16).mono ?_
  rintro e w9 ⟨b, n9, c, rfl, ho, z9⟩
  have s6 := z9.size
  have hb6 := on hb5 z9
  replace b_0 := (z9.cell (p := ⟨w.heap.size, 0, none⟩) (by simp only []; omega)).trans b_0
  replace b_1 := (z9.cell (p := ⟨w.heap.size, 1, none⟩) (by simp only []; omega)).trans b_1
  go_wp2_with fail
  go_ret
  exact ⟨_, rfl, by rw [HE.out]; exact ho.own.mono (by omega) (Nat.le_refl _), hb6⟩

end Go.Proofs.Ytbkoddikfpkocaa

/- Contracts: the variables of a mask, by the program; shared variables. -/
namespace Go.Proofs.Ytbkoddikfpkocaa
open Go.RowKit
set_option linter.unusedVariables false
set_option linter.unusedSimpArgs false
set_option synthInstance.maxSize 2000
set_option synthInstance.maxHeartbeats 400000

theorem own_empty' {B : Nat} {W : World} {g : Nat} (hB : B ≤ W.heap.size) (hg : W.heap.size = g) : OwnInts B (W.alloc (.cells #[] 3)) (.slice (some ⟨g, 0, none⟩) 0 0) 0 [] := by
  subst hg; exact own_empty hB

theorem wpList_app1g {B : Nat} {w0 W : World} {ops : Array Oper} {rest : List Oper} {o : Oper} {a : Act} {Q : Exit → Act → World → Prop}
    (s x : Operand) (v : Value) (n g : Nat) (xs : List Int) (u : Int)
    (hown : OwnInts B W v n xs) (hb : Below B w0 W) (hB : B ≤ W.heap.size) (hu : I64 u) (hn : n ≤ 1000000000000) (hg : W.heap.size = g)
    (hgd : o.guard = none) (ho : o.op = .call { callee := .builtin .append, args := #[s, x], argTypes := #[24, 24] })
    (hs : a.eval s = v) (hx : a.eval x = .slice (some ⟨g, 0, none⟩) 1 1)
    (h : ∀ v' w', OwnInts B w' v' (n + 1) (xs ++ [u]) → Below B w0 w' → B ≤ w'.heap.size → wpList Try.prog ops Q rest (a.put o.dst v') w') :
    wpList Try.prog ops Q (o :: rest) a (W.alloc (.cells #[.int .i64 u] 3)) := by
  subst hg
  exact wpList_app1 s x v n xs u hown hb hB hu hn hgd ho hs hx h

set_option maxHeartbeats 2000000 in
theorem variables_any (cs : List Value) (x : DQ) (K n : Nat) (w : World) (h : rQ.rep w cs x) (hq : QOk x n) (hK : K < 16) :
    Calls Try.prog 178 #[.agg cs.toArray, .int .i64 K] w fun e w' => ∃ u, e = .returned u ∧ Own oI w.heap.size w'.heap.size w' [u] (varsOf x K) ∧ Below w.heap.size w w' := by
  obtain ⟨ub, un, uc, rfl, hi, g1⟩ := rQ_open h
  clear h hi
  obtain ⟨i, xs⟩ := x
  simp only at g1
  have t0 := rS_sl g1
  have hl := t0.len
  have hn4 := hq.le
  have hl4 := hq.len
  have hcnt := hq.cnt
  simp only at hl4 hcnt
  subst hcnt
  have hun : un ≤ 4 := by omega
  have HQ := Lib.hid hq
  obtain ⟨M, hM⟩ : ∃ M, M = bitsOf ((n : Int), xs) K := ⟨_, rfl⟩
  have HV := Lib.hid (show bitsTo M n = varsOf ((n : Int), xs) K by rw [hq.varsOf K, hM])
  have HS := Lib.hid (show ∀ v, bitAt M v = someFrom K v 0 (xs.drop 0) by intro v; rw [hM]; exact hq.some K v)
  clear hq hl4 hM
  have hb0 : Below w.heap.size w w := Below.refl _ _
  go_enter Try.func178, Try.ntmps178
  obtain ⟨w1, hw1⟩ : ∃ W, W = w.alloc (.cells #[.int .i64 n, .slice ub un uc] 46) := ⟨_, rfl⟩
  have z1 : Below w.heap.size w w1 := by rw [hw1]; exact (Below.refl _ _).alloc (Nat.le_refl _) _
  have s1 : w1.heap.size = w.heap.size + 1 := by rw [hw1]; simp
  have hb1 := on hb0 z1
  have b_0 : w1.cell? ⟨w.heap.size, 0, none⟩ = some (.int .i64 n) := by rw [hw1]; exact box_cell (Below.refl _ _) rfl
  have b_1 : w1.cell? ⟨w.heap.size, 1, none⟩ = some (.slice ub un uc) := by rw [hw1]; exact box_cell (Below.refl _ _) rfl
  have raw1_b_0 := b_0
  have raw1_b_1 := b_1
  rw [hw1] at raw1_b_0 raw1_b_1
  go_wp2_with fail
  rw [← hw1]
  clear hw1
  clear raw1_b_0 raw1_b_1
  go_loopw [5, 6] (fun s k wr => ∃ j q : Nat, j ≤ n ∧ k = .int .i64 j ∧ OwnInts w1.heap.size wr s q (bitsTo M j) ∧ Below w1.heap.size w1 wr) (fun _ k _ => n - (intOf k).toNat)
  case atStart => exact ⟨0, 0, Nat.zero_le _, rfl, own_empty' (Nat.le_refl _) (by omega), (Below.refl _ _).alloc (Nat.le_refl _) _⟩
  case round =>
    obtain ⟨j, q, hj, rfl, hown, hdr⟩ := hrel
    obtain ⟨wo, rfl⟩ : ∃ W, W = wr := ⟨_, rfl⟩
    have hlc := hdr
    have s2 := hdr.size
    have hb2 := on hb1 hdr
    replace b_0 := (hdr.cell (p := ⟨w.heap.size, 0, none⟩) (by simp only []; omega)).trans b_0
    replace b_1 := (hdr.cell (p := ⟨w.heap.size, 1, none⟩) (by simp only []; omega)).trans b_1
    have hq4 : q ≤ 4 := by have := hown.len; have := bitsTo_len M j; omega
    by_cases hlt : j < n
    · go_wp2_with fail
      obtain ⟨a, cap, rfl, hqs, hqa⟩ := own_form hown.row
      go_loopw [5, 19] (fun s k wr => ∃ i' : Nat, i' ≤ un ∧ k = .int .i64 i' ∧ s = .slice a q cap ∧ Hid (bitAt M j = someFrom K j i' (xs.drop i')) ∧ Below wo.heap.size wo wr) (fun _ k _ => un - (intOf k).toNat)
      case atStart => exact ⟨0, Nat.zero_le _, rfl, rfl, HS.out j, Below.refl _ _⟩
      case round =>
        obtain ⟨i', hi, rfl, rfl, hE, hdr⟩ := hrel
        have hld := hdr
        have s3 := hdr.size
        have hb3 := on hb2 hdr
        replace b_0 := (hdr.cell (p := ⟨w.heap.size, 0, none⟩) (by simp only []; omega)).trans b_0
        replace b_1 := (hdr.cell (p := ⟨w.heap.size, 1, none⟩) (by simp only []; omega)).trans b_1
        replace hlc := on hlc hdr
        replace hown := hown.below hdr
        by_cases hlv : i' < un
        · obtain ⟨b1, o1, cs, x, rfl, hx, hr, hc⟩ := t0.at hlv
          obtain ⟨s, vs⟩ := x
          obtain ⟨vb, vn, vc, rfl, hs, g2⟩ := rA_open hr
          simp only at hs g2
          have e_lt : b1 < w.heap.size := cell_lt (hc 0 _ rfl)
          have e_0 : wr.cell? ⟨b1, o1 + i' * 2, none⟩ = some (.string s) := (hb3.cell (p := ⟨b1, o1 + i' * 2, none⟩) e_lt).trans (by have h9 := hc 0 _ rfl; rw [← Nat.add_assoc] at h9; exact h9)
          have e_1 : wr.cell? ⟨b1, o1 + i' * 2 + 1, none⟩ = some (.slice vb vn vc) := (hb3.cell (p := ⟨b1, o1 + i' * 2 + 1, none⟩) e_lt).trans (by have h9 := hc 1 _ rfl; rw [← Nat.add_assoc] at h9; exact h9)
          have HA := Lib.hid (hE.out.trans (someFrom_at hx.out))
          clear hc t0 hr hl hx hE HV HS
          simp only at HA
          obtain ⟨w4, hw4⟩ : ∃ W, W = wr.alloc (.cells #[.string s, .slice vb vn vc] 161) := ⟨_, rfl⟩
          have z4 : Below wr.heap.size wr w4 := by rw [hw4]; exact (Below.refl _ _).alloc (Nat.le_refl _) _
          have s4 : w4.heap.size = wr.heap.size + 1 := by rw [hw4]; simp
          have hb4 := on hb3 z4
          have old4_b_0 := b_0
          have old4_b_1 := b_1
          have old4_e_0 := e_0
          have old4_e_1 := e_1
          replace b_0 := (z4.cell (p := ⟨w.heap.size, 0, none⟩) (by simp only []; omega)).trans b_0
          replace b_1 := (z4.cell (p := ⟨w.heap.size, 1, none⟩) (by simp only []; omega)).trans b_1
          replace hlc := on hlc z4
          replace hown := hown.below z4
          replace hld := on hld z4
          replace e_0 := (z4.cell (p := ⟨b1, o1 + i' * 2, none⟩) (by simp only []; omega)).trans e_0
          replace e_1 := (z4.cell (p := ⟨b1, o1 + i' * 2 + 1, none⟩) (by simp only []; omega)).trans e_1
          have p_0 : w4.cell? ⟨wr.heap.size, 0, none⟩ = some (.string s) := by rw [hw4]; exact box_cell (Below.refl _ _) rfl
          have p_1 : w4.cell? ⟨wr.heap.size, 1, none⟩ = some (.slice vb vn vc) := by rw [hw4]; exact box_cell (Below.refl _ _) rfl
          have raw4_b_0 := b_0
          have raw4_b_1 := b_1
          have raw4_e_0 := e_0
          have raw4_e_1 := e_1
          have raw4_p_0 := p_0
          have raw4_p_1 := p_1
          rw [hw4] at raw4_b_0 raw4_b_1 raw4_e_0 raw4_e_1 raw4_p_0 raw4_p_1
          have hbt := bit_test K i' (by omega)
          have hlt2 : (j : Int) < n := by omega
          cases hb : bitAt K i' with
          | true =>
            rw [hb] at HA hbt
            have i0 := (rI_ints g2).below hb4
            clear hb
            go_wp2_with fail
            rw [← hw4]
            clear hw4
            clear old4_b_0 old4_b_1 old4_e_0 old4_e_1 raw4_b_0 raw4_b_1 raw4_e_0 raw4_e_1 raw4_p_0 raw4_p_1
            refine (contains_any _ _ _ _ _ _ i0).mono ?_
            rintro e w' ⟨rfl, rfl⟩
            obtain ⟨t, ht⟩ : ∃ t, t = has vs (j : Int) := ⟨_, rfl⟩
            rw [← ht] at HA ⊢
            clear ht i0
            cases t with
            | true =>
              have HB := Lib.hid (bitsTo_yes (show bitAt M j = true by rw [HA.out]; simp))
              have hsz := hlc.size
              go_wp2_with ((at_builtin; refine wpList_app1g _ _ _ _ _ _ _ hown hlc hsz ⟨by omega, by omega⟩ (by omega) (by omega) rfl rfl rfl rfl ?_; intro v' w9 hown' hb' hsz'))
              rw [← HB.out] at hown'
              go_roundw
              case rel => exact ⟨j + 1, q + 1, by omega, by go_num, hown', hb'⟩
              case measure => simp [intOf]; omega
            | false =>
              have HE := Lib.hid (show bitAt M j = someFrom K j (i' + 1) (xs.drop (i' + 1)) by rw [HA.out]; simp)
              go_wp2_with fail
              go_roundw
              case rel => exact ⟨i' + 1, by omega, by go_num, rfl, HE.out, hld⟩
              case measure => simp [intOf]; omega
          | false =>
            rw [hb] at HA hbt
            have HE := Lib.hid (show bitAt M j = someFrom K j (i' + 1) (xs.drop (i' + 1)) by rw [HA.out]; simp)
            clear hb HA
            go_wp2_with fail
            rw [← hw4]
            clear hw4
            clear old4_b_0 old4_b_1 old4_e_0 old4_e_1 raw4_b_0 raw4_b_1 raw4_e_0 raw4_e_1 raw4_p_0 raw4_p_1
            go_roundw
            case rel => exact ⟨i' + 1, by omega, by go_num, rfl, HE.out, hld⟩
            case measure => simp [intOf]; omega
        · rw [← bitsTo_no (hE.out.trans (someFrom_end (by omega)))] at hown
          have HO := Lib.hid hown
          clear t0 hl hE hown
          go_wp2_with fail
          go_roundw
          case rel => exact ⟨j + 1, q, by omega, by go_num, HO.out, hlc⟩
          case measure => simp [intOf]; omega
    · obtain rfl : j = n := by omega
      obtain ⟨a, cap, rfl, _⟩ := own_form hown.row
      rw [HV.out] at hown
      have HO := Lib.hid (show Own oI w.heap.size wo.heap.size wo [.slice a q cap] _ from hown.own.mono (by omega) (Nat.le_refl _))
      clear t0 hl hown
      go_wp2_with fail
      go_ret
      exact ⟨_, rfl, HO.out, hb2⟩

theorem maskVars_cnt (q : DQ) (k : Int) : cnt_I (maskVars q k) ≤ 4 := maskVars_len q k

set_option maxHeartbeats 1000000 in
theorem both_any (u v : Value) (xs ys : List Int) (w : World) (h : rI.rep w [u] xs) (h' : rI.rep w [v] ys) (hn : xs.length ≤ 1048576) :
    Calls Try.prog 179 #[u, v] w fun e w' => ∃ u, e = .returned u ∧ Own oI w.heap.size w'.heap.size w' [u] (both xs ys) ∧ Below w.heap.size w w' := by
  obtain ⟨a, cap, rfl, _, _, hi⟩ := rI_open h
  obtain ⟨a', cap', rfl, _, _, hi'⟩ := rI_open h'
  clear h h'
  obtain ⟨n, hl⟩ : ∃ n, xs.length = n := ⟨_, rfl⟩
  rw [hl] at hi hn ⊢
  go_enter Try.func179, Try.ntmps179
  go_wp2
  go_loopw [5, 11] (fun v i wr => ∃ (j : Nat), j ≤ n ∧ i = .int .i64 j ∧ ∃ q, OwnInts w.heap.size wr v q (both (xs.take j) ys) ∧ Below w.heap.size w wr) (fun _ i _ => n - (intOf i).toNat)
  case atStart => exact ⟨0, Nat.zero_le _, rfl, 0, by rw [List.take_zero]; exact own_empty (Nat.le_refl _), (Below.refl _ _).alloc (Nat.le_refl _) _⟩
  case round =>
    obtain ⟨j, hj, rfl, q, hown, hbl⟩ := hrel
    have hsz := hbl.size
    replace hi := hi.below hbl
    replace hi' := hi'.below hbl
    have hq : q ≤ 1048576 := by have := hown.len; have := both_len (xs.take j) ys; have : (xs.take j).length ≤ j := List.length_take_le _ _; omega
    by_cases hlt : j < n
    · obtain ⟨b1, off, x, rfl, hc, hx, hx1, hx2⟩ := hi.get hlt
      have hcall := contains_any _ _ cap' _ x _ hi'
      obtain ⟨t, ht⟩ : ∃ t, t = has ys x := ⟨_, rfl⟩
      rw [← ht] at hcall
      have HC := Lib.hid hcall
      clear hcall
      cases t with
      | true =>
        have HB := Lib.hid (both_yes (show j < xs.length by omega) hx.out ht.symm)
        clear ht hi hl
        go_wp2_with (first
          | (go_at_call 124; refine (HC.out).mono ?_; rintro e w' ⟨rfl, rfl⟩)
          | (at_builtin; refine wpList_app1 _ _ _ _ _ _ hown hbl hsz ⟨by omega, by omega⟩ (by omega) rfl rfl rfl rfl ?_; intro v' w1 hown' hb' hsz'))
        rw [← HB.out] at hown'
        go_roundw
        case rel => exact ⟨j + 1, by omega, by go_num, q + 1, hown', hb'⟩
        case measure => simp [intOf]; omega
      | false =>
        rw [← both_no (show j < xs.length by omega) hx.out ht.symm] at hown
        have HO := Lib.hid hown
        clear ht hi hl hown
        go_wp2_with (first
          | (go_at_call 124; refine (HC.out).mono ?_; rintro e w' ⟨rfl, rfl⟩))
        go_roundw
        case rel => exact ⟨j + 1, by omega, by go_num, q, HO.out, hbl⟩
        case measure => simp [intOf]; omega
    · obtain rfl : j = n := by omega
      obtain ⟨a', cap2, rfl, _⟩ := own_form hown.row
      rw [both_end (by omega)] at hown
      have HO := Lib.hid hown
      clear hown hi hi' hl
      go_wp2
      go_ret
      exact ⟨_, rfl, HO.out.own, hbl⟩

end Go.Proofs.Ytbkoddikfpkocaa
