/- The laws' marks: what they turn. -/
import Derived.Test.YthhbmbkecaffeaaMark
import Derived.Test.YthhbmbkecaffeaaKII
namespace Go.Proofs.Ythhbmbkecaffeaa
open Go.RowKit
set_option linter.unusedVariables false
set_option linter.unusedSimpArgs false

/-- Of the blocks that stood in w, at most those of fp have turned. -/
structure Alt (fp : List Nat) (w w' : World) : Prop where
  os : w'.os = w.os
  tape : w'.tape = w.tape
  output : w'.output = w.output
  size : w.heap.size ≤ w'.heap.size
  block : ∀ k, k < w.heap.size → k ∉ fp → w'.heap[k]? = w.heap[k]?
theorem Alt.refl (fp : List Nat) (w : World) : Alt fp w w := ⟨rfl, rfl, rfl, Nat.le_refl _, fun _ _ _ => rfl⟩
theorem Alt.trans {fp : List Nat} {a b c : World} (h : Alt fp a b) (k : Alt fp b c) : Alt fp a c :=
  ⟨k.os.trans h.os, k.tape.trans h.tape, k.output.trans h.output, Nat.le_trans h.size k.size, fun i hi hn => (k.block i (Nat.lt_of_lt_of_le hi h.size) hn).trans (h.block i hi hn)⟩
theorem Alt.mono {fp fq : List Nat} {w w' : World} (h : Alt fp w w') (hs : ∀ k ∈ fp, k ∈ fq) : Alt fq w w' :=
  ⟨h.os, h.tape, h.output, h.size, fun k hk hn => h.block k hk (fun hm => hn (hs k hm))⟩
theorem Alt.only {fp : List Nat} {w w' : World} (h : Only fp w w') : Alt fp w w' := ⟨h.os, h.tape, h.output, by rw [h.size]; exact Nat.le_refl _, fun k _ hn => h.block k hn⟩
theorem Alt.below {fp : List Nat} {w w' : World} (h : Below w.heap.size w w') : Alt fp w w' := ⟨h.os, h.tape, h.output, h.size, fun k hk _ => h.block k hk⟩
theorem Alt.set {fp : List Nat} {w : World} {p : Addr} (hp : p.block ∈ fp) (u : Value) : Alt fp w (w.setCell p u) :=
  ⟨rfl, rfl, rfl, by simp [World.setCell], fun k hk hn => Below.heap_setCell _ _ _ _ (fun e => hn (e ▸ hp))⟩
theorem Alt.turn {fp : List Nat} {lo hi : Nat} {w w' : World} (h : Alt fp w w') (hk : ∀ k ∈ fp, lo ≤ k ∧ k < hi) : Turn lo hi w w' :=
  ⟨h.os, h.tape, h.output, h.size, fun k h1 h2 => h.block k h1 (fun hm => by have := hk k hm; omega)⟩

/-- Marks laid one behind the other. -/
def mkL {α : Type} (m : Int → α → α) (c : α → Nat) : Int → List α → List α
  | _, [] => []
  | k, x :: t => m k x :: mkL m c (k + c x) t
theorem mkL_len {α : Type} (m : Int → α → α) (c : α → Nat) : ∀ (k : Int) (xs : List α), (mkL m c k xs).length = xs.length
  | _, [] => rfl
  | k, x :: t => by simp [mkL, mkL_len m c]
theorem mkL_get {α : Type} (m : Int → α → α) (c : α → Nat) : ∀ (k : Int) (xs : List α) (j : Nat) (x : α), xs[j]? = some x → (mkL m c k xs)[j]? = some (m (k + sumBy c (xs.take j)) x)
  | k, [], j, x, h => by simp at h
  | k, y :: t, 0, x, h => by simp at h; subst h; simp [mkL, sumBy]
  | k, y :: t, j + 1, x, h => by
    have := mkL_get m c (k + c y) t j x (by simpa using h)
    simp only [mkL, List.getElem?_cons_succ, this, List.take_succ_cons]
    congr 2
    simp [sumBy]; omega
/-- The first j are marked. -/
def mkLTo {α : Type} (m : Int → α → α) (c : α → Nat) (k : Int) (xs : List α) (j : Nat) : List α := (mkL m c k xs).take j ++ xs.drop j
theorem mkLTo_get {α : Type} (m : Int → α → α) (c : α → Nat) (k : Int) (xs : List α) (j : Nat) (x : α) (h : xs[j]? = some x) : (mkLTo m c k xs j)[j]? = some x := by
  have hj := (List.getElem?_eq_some_iff.1 h).1
  unfold mkLTo
  rw [List.getElem?_append_right (by simp [mkL_len]; omega), List.getElem?_drop]
  simp only [List.length_take, mkL_len]
  rw [show min j xs.length = j by omega, show j + (j - j) = j by omega]
  exact h
theorem mkLTo_step {α : Type} (m : Int → α → α) (c : α → Nat) (k : Int) (xs : List α) (j : Nat) (x : α) (h : xs[j]? = some x) : (mkLTo m c k xs j).set j (m (k + sumBy c (xs.take j)) x) = mkLTo m c k xs (j + 1) := by
  have hj := (List.getElem?_eq_some_iff.1 h).1
  unfold mkLTo
  rw [take_snoc' _ _ _ (mkL_get m c k xs j x h), List.set_append_right _ _ (by simp [mkL_len]; omega)]
  have e : xs.drop j = x :: xs.drop (j + 1) := by
    rw [List.drop_eq_getElem_cons hj]; congr 1; exact (List.getElem?_eq_some_iff.1 h).2
  rw [e]
  simp only [List.length_take, mkL_len]
  rw [show j - min j xs.length = 0 by omega]
  simp
theorem mkLTo_all {α : Type} (m : Int → α → α) (c : α → Nat) (k : Int) (xs : List α) {n : Nat} (h : xs.length = n) : mkLTo m c k xs n = mkL m c k xs := by
  subst h
  unfold mkLTo
  rw [List.take_of_length_le (by rw [mkL_len]; exact Nat.le_refl _)]
  simp
theorem mkLTo_zero {α : Type} (m : Int → α → α) (c : α → Nat) (k : Int) (xs : List α) : mkLTo m c k xs 0 = xs := by simp [mkLTo]

/-- One element of an owned slice, its cells in the slice's block. -/
theorem slice_at {α : Type} {t : TypeId} {o : OS α} {w : World} {a : Option Addr} {n cap : Nat} {xs : List α} {fp : List Nat} (h : (O.slice t o).rep w [.slice a n cap] xs fp) (hn : fp.Nodup) {i : Nat} {x : α} (hx : xs[i]? = some x) :
    ∃ g c f pre post E, a = some ⟨g, 0, none⟩ ∧ g ∈ fp ∧ g ∉ f ∧ g < w.heap.size ∧ o.rep w c x f ∧ f.Nodup ∧ (∀ k ∈ f, k ∈ fp) ∧ pre.length = i * o.size ∧ w.heap[g]? = some (.cells (pre ++ (c ++ post)).toArray E) ∧
      ∀ w' x' c', o.rep w' c' x' f → w'.heap[g]? = some (.cells (pre ++ (c' ++ post)).toArray E) → (∀ k ∈ fp, k ≠ g → k ∉ f → w'.heap[k]? = w.heap[k]?) → (O.slice t o).rep w' [.slice a n cap] (xs.set i x') fp := by
  have hlt := (O.slice t o).lt h
  obtain ⟨v, css, fps, hv, rfl, h1, h2⟩ := h
  simp at hv
  subst hv
  obtain ⟨c, f, hc, hf, hr⟩ := o.rows_get h2 i x hx
  have hnl := List.nodup_append.1 hn
  have hmem : ∀ k ∈ f, k ∈ fps.flatten := fun k hk => List.mem_flatten.2 ⟨f, List.mem_of_getElem? hf, hk⟩
  have hsub : f.Sublist fps.flatten := List.sublist_flatten_of_mem (List.mem_of_getElem? hf)
  have hix := (List.getElem?_eq_some_iff.1 hx).1
  have hic := (List.getElem?_eq_some_iff.1 hc).1
  rcases h1.2 with ⟨hv, h0⟩ | ⟨g, cap', cur, hv, hB, hg, hnc, hcm, hcs, htake⟩
  · omega
  simp at hv
  obtain ⟨rfl, rfl, rfl⟩ := hv
  have hcl := o.len hr
  have hgf : g ∉ f := fun hm => hnl.2.2 g (by simp [bl, Value.ownBlock]) g (hmem g hm) rfl
  have hsplit : css = css.take i ++ c :: css.drop (i + 1) := by
    conv => lhs; rw [← List.take_append_drop i css]
    rw [List.drop_eq_getElem_cons hic]
    congr 2
    exact (List.getElem?_eq_some_iff.1 hc).2
  have hpre : ((css.take i).flatten).length = i * o.size := by
    have hr2 : o.rows w (css.take i) (xs.take i) (fps.take i) := by
      have : ∀ {css : List (List Value)} {xs : List α} {fps : List (List Nat)} (h : o.rows w css xs fps) (i : Nat), o.rows w (css.take i) (xs.take i) (fps.take i) := by
        intro css
        induction css with
        | nil => intro xs fps h i; match xs, fps, h with
          | [], [], _ => simp [OS.rows]
        | cons c cs ih => intro xs fps h i; match xs, fps, h with
          | y :: ys, p :: ps, h => cases i with
            | zero => simp [OS.rows]
            | succ i => simp only [List.take_succ_cons]; exact ⟨h.1, ih h.2 i⟩
      exact this h2 i
    rw [(o.rows_len hr2).2.2, List.length_take, Nat.min_eq_left (by omega)]
  refine ⟨g, c, f, (css.take i).flatten, (css.drop (i + 1)).flatten ++ cur.toList.drop (xs.length * o.size), t, rfl, by simp [bl, Value.ownBlock], hgf, hlt g (by simp [bl, Value.ownBlock]), hr, hsub.nodup hnl.2.1, fun k hk => List.mem_append_right _ (hmem k hk), hpre, ?_, ?_⟩
  · rw [hg]
    congr 2
    apply Array.ext'
    simp only []
    conv => lhs; rw [← List.take_append_drop (xs.length * o.size) cur.toList, htake, hsplit]
    simp
  · intro w' x' c' hr' hg' hk
    have hcl' := o.len hr'
    have hsp' : css.set i c' = css.take i ++ c' :: css.drop (i + 1) := by
      rw [List.set_eq_take_append_cons_drop, if_pos hic]
    refine ⟨_, css.set i c', fps, rfl, rfl, ?_, ?_⟩
    · refine ⟨?_, .inr ⟨g, cap, _, by rw [List.length_set], hB, hg', by rw [List.length_set]; exact hnc, hcm, ?_, ?_⟩⟩
      · have h9 := h1.1
        rw [hsplit] at h9
        rw [hsp', List.length_set]
        simp only [List.flatten_append, List.flatten_cons, List.length_append] at h9 ⊢
        omega
      · have h9 := h1.1
        rw [hsplit] at h9
        simp only [List.flatten_append, List.flatten_cons, List.length_append] at h9
        have h8 := Nat.mul_le_mul_right o.size hnc
        simp only [List.size_toArray, List.length_append, List.length_drop, Array.length_toList]
        omega
      · have h9 := h1.1
        rw [hsplit] at h9
        simp only [List.flatten_append, List.flatten_cons, List.length_append] at h9
        rw [List.length_set, hsp']
        simp only [List.flatten_append, List.flatten_cons]
        rw [show (css.take i).flatten ++ (c' ++ ((css.drop (i + 1)).flatten ++ cur.toList.drop (xs.length * o.size))) = ((css.take i).flatten ++ (c' ++ (css.drop (i + 1)).flatten)) ++ cur.toList.drop (xs.length * o.size) by simp]
        rw [List.take_append_of_le_length (by simp only [List.length_append]; omega), List.take_of_length_le (by simp only [List.length_append]; omega)]
    · have key : ∀ {css : List (List Value)} {xs : List α} {fps : List (List Nat)} (h : o.rows w css xs fps) (i : Nat), fps[i]? = some f → fps.flatten.Nodup → (∀ k ∈ fps.flatten, k ∉ f → w'.heap[k]? = w.heap[k]?) → o.rows w' (css.set i c') (xs.set i x') fps := by
        intro css
        induction css with
        | nil => intro xs fps h i hf hn hk; match xs, fps, h with
          | [], [], _ => simp at hf
        | cons c cs ih => intro xs fps h i hf hn hk; match xs, fps, h with
          | y :: ys, p :: ps, h =>
            simp only [List.flatten_cons] at hn hk
            have hn' := List.nodup_append.1 hn
            cases i with
            | zero =>
              simp at hf; subst hf
              exact ⟨hr', o.rows_frame h.2 (fun k hm => hk k (List.mem_append_right _ hm) (fun hq => hn'.2.2 k hq k hm rfl))⟩
            | succ i =>
              simp only [List.getElem?_cons_succ] at hf
              have hin : ∀ k ∈ f, k ∈ ps.flatten := fun k hk => List.mem_flatten.2 ⟨f, List.mem_of_getElem? hf, hk⟩
              exact ⟨o.frame h.1 (fun k hm => hk k (List.mem_append_left _ hm) (fun hq => hn'.2.2 k hm k (hin k hq) rfl)), ih h.2 i hf hn'.2.1 (fun k hm hq => hk k (List.mem_append_right _ hm) hq)⟩
      refine key h2 i hf hnl.2.1 (fun k hm hq => hk k (List.mem_append_right _ hm) (fun e => ?_) hq)
      subst e
      exact hnl.2.2 k (by simp [bl, Value.ownBlock]) k hm rfl
theorem oS_len {α : Type} {t : TypeId} {o : OS α} {w : World} {cs : List Value} {xs : List α} {fp : List Nat} (h : (O.slice t o).rep w cs xs fp) : ∃ a cap, cs = [.slice a xs.length cap] := by
  obtain ⟨v, css, fps, rfl, _, h1, _⟩ := h
  obtain ⟨a, cap, rfl, _⟩ := own_form h1
  exact ⟨a, cap, rfl⟩
theorem oS_len1 {α : Type} {t : TypeId} {o : OS α} {w : World} {a : Option Addr} {n cap : Nat} {xs : List α} {fp : List Nat} (h : (O.slice t o).rep w [.slice a n cap] xs fp) : xs.length = n := by
  obtain ⟨a, cap, hv⟩ := oS_len h
  simp at hv
  exact hv.2.1.symm
theorem sumBy_le {α : Type} (f : α → Nat) {xs : List α} {j : Nat} {x : α} (h : xs[j]? = some x) : sumBy f (xs.take j) + f x ≤ sumBy f xs := by
  have h9 : sumBy f xs = sumBy f (xs.take j) + sumBy f (xs.drop j) := by
    conv => lhs; rw [← List.take_append_drop j xs]
    simp only [sumBy, List.map_append, List.sum_append]
  have h8 := sumBy_drop f h
  omega
theorem mdig_len : ∀ (f k : Nat) (out : List UInt8), (mdig f k out).length ≤ f + out.length
  | 0, _, out => by simp [mdig]
  | f + 1, k, out => by
    rw [mdig]; split
    · omega
    · have := mdig_len f (k / 10) (UInt8.ofNat (48 + k % 10) :: out); simp only [List.length_cons] at this; omega
theorem mtext_size (k : Nat) (h : k ≤ 1000000000000) : (mtext k).size ≤ 9223372036854775807 := by
  have h1 := mdig_len 20 k []
  have h2 : (mtext k).size = (mdig 20 k []).length + 1 := rfl
  rw [h2]
  simp at h1
  omega
theorem markText_int (k : Int) (w : World) (h0 : 0 < k) (hk : k ≤ 100000000000) :
    Calls Try.prog 104 #[.int .i64 k] w fun e w' => e = .returned (.string (mtext k.toNat)) ∧ Below w.heap.size w w' := by
  obtain ⟨m, rfl⟩ := Int.eq_ofNat_of_zero_le (show 0 ≤ k by omega)
  exact markText_any m w (by omega) (by omega)

theorem sumBy_two {α : Type} {c b : α → Nat} (h : ∀ x, c x ≤ 2 * (1 + b x)) : ∀ (xs : List α), sumBy c xs ≤ 2 * (xs.length + sumBy b xs)
  | [] => by simp [sumBy]
  | x :: t => by
    have h1 := sumBy_two h t
    have h2 := h x
    simp only [sumBy, List.map_cons, List.sum_cons, List.length_cons] at h1 ⊢
    omega
theorem cntSS_le (xss : List (List Int)) : cntSS xss ≤ sumBy bulk_I xss := Nat.le_of_eq rfl
def cnt_II (xss : List (List Int)) : Nat := cntSS xss
def mk_II (k : Int) (xss : List (List Int)) : List (List Int) := mkSS k xss
theorem cnt_le_II (xss : List (List Int)) : cnt_II xss ≤ 2 * bulk_II xss := by
  have := cntSS_le xss
  unfold cnt_II bulk_II; omega

theorem at_cell {w : World} {g p : Nat} {pre c post : List Value} {E : TypeId} (h : w.heap[g]? = some (.cells (pre ++ (c ++ post)).toArray E)) (hp : pre.length = p) {j : Nat} {u : Value} (hu : c[j]? = some u) : w.cell? ⟨g, p + j, none⟩ = some u := by
  have hj := (List.getElem?_eq_some_iff.1 hu).1
  simp only [World.cell?, h]
  simp only [Option.isSome_none, Bool.false_eq_true, if_false]
  rw [List.getElem?_toArray, List.getElem?_append_right (by omega), List.getElem?_append_left (by omega), show p + j - pre.length = j by omega]
  exact hu
theorem at_frozen {w : World} {g : Nat} {cs : Array Value} {E : TypeId} (h : w.heap[g]? = some (.cells cs E)) (i : Nat) : w.frozen? ⟨g, i, none⟩ = false := by simp [World.frozen?, h]
theorem at_set {w : World} {g p : Nat} {pre c post : List Value} {E : TypeId} (h : w.heap[g]? = some (.cells (pre ++ (c ++ post)).toArray E)) (hp : pre.length = p) {j : Nat} (hj : j < c.length) (u : Value) : (w.setCell ⟨g, p + j, none⟩ u).heap[g]? = some (.cells (pre ++ (c.set j u ++ post)).toArray E) := by
  rw [heap_setCell_same w g _ _ E u h]
  congr 2
  apply Array.ext'
  simp only [Array.toList_setIfInBounds]
  rw [List.set_append_right _ _ (by omega), List.set_append_left _ _ (by omega), show p + j - pre.length = j by omega]
end Go.Proofs.Ythhbmbkecaffeaa
