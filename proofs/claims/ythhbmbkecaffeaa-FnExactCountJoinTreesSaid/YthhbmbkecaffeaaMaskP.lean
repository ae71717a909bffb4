/- Plain facts: masks of atoms, and the variables of what they hold. -/
import Derived.Test.YthhbmbkecaffeaaValidQ
namespace Go.Proofs.Ythhbmbkecaffeaa
open Go.RowKit
set_option linter.unusedVariables false
set_option linter.unusedSimpArgs false

/-- What a valid query is known to hold. -/
structure QOk (q : DQ) (n : Nat) : Prop where
  cnt : q.1 = n
  pos : 1 ≤ n
  le : n ≤ 4
  lpos : 1 ≤ q.2.length
  len : q.2.length ≤ 4
  name : ∀ a ∈ q.2, nameB a.1 = true
  vpos : ∀ a ∈ q.2, 1 ≤ a.2.length
  vlen : ∀ a ∈ q.2, a.2.length ≤ 3
  vars : ∀ a ∈ q.2, ∀ v ∈ a.2, 0 ≤ v ∧ v < n
theorem varsFrom_mem {n : Int} : ∀ {vs pre : List Int}, varsFrom n pre vs = true → ∀ v ∈ vs, 0 ≤ v ∧ v < n
  | [], _, _, v, hv => by cases hv
  | x :: t, pre, h, v, hv => by
    simp only [varsFrom, Bool.and_eq_true, betw, decide_eq_true_eq] at h
    rcases List.mem_cons.1 hv with rfl | hv
    · omega
    · exact varsFrom_mem h.2 v hv
theorem validFrom_atoms {n : Nat} : ∀ {xs : List DA} {m : Nat}, validFrom n m xs = true → ∀ a ∈ xs, nameB a.1 = true ∧ 1 ≤ a.2.length ∧ a.2.length ≤ 3 ∧ ∀ v ∈ a.2, 0 ≤ v ∧ v < (n : Int)
  | [], _, _, a, ha => by cases ha
  | x :: t, m, h, a, ha => by
    simp only [validFrom, Bool.and_eq_true, betw, decide_eq_true_eq] at h
    rcases List.mem_cons.1 ha with rfl | ha
    · exact ⟨h.1.1, by omega, by omega, varsFrom_mem h.2.1⟩
    · exact validFrom_atoms h.2.2 a ha
theorem QOk.of {q : DQ} (h : validQ q = true) : ∃ n, QOk q n := by
  simp only [validQ, Bool.and_eq_true, betw, decide_eq_true_eq] at h
  have hf := validFrom_atoms h.2
  refine ⟨q.1.toNat, by omega, by omega, by omega, by omega, by omega, fun a ha => (hf a ha).1, fun a ha => (hf a ha).2.1, fun a ha => (hf a ha).2.2.1, fun a ha => (hf a ha).2.2.2⟩

/-- The variables, as bits, of the atoms of a mask; i: the first atom's number. -/
def qbits (K m : Nat) : Nat → List DA → Nat
  | _, [] => m
  | i, a :: t => qbits K (if bitAt K i then vbits m a.2 else m) (i + 1) t
/-- The variables of a mask. -/
def bitsOf (q : DQ) (K : Nat) : Nat := qbits K 0 0 q.2

theorem qbits_at {K m j : Nat} {xs : List DA} {a : DA} (h : xs[j]? = some a) : qbits K m j (xs.drop j) = qbits K (if bitAt K j then vbits m (a.2.drop 0) else m) (j + 1) (xs.drop (j + 1)) := by
  obtain ⟨h1, rfl⟩ := List.getElem?_eq_some_iff.1 h
  rw [List.drop_eq_getElem_cons h1]; simp [qbits]
theorem qbits_end {K m j : Nat} {xs : List DA} (h : xs.length ≤ j) : qbits K m j (xs.drop j) = m := by
  rw [List.drop_eq_nil_of_le h]; rfl

theorem vbits_or : ∀ (vs : List Int) (m : Nat), vbits m vs = m ||| vbits 0 vs
  | [], m => by simp [vbits]
  | v :: t, m => by
    rw [vbits, vbits, vbits_or t (m ||| 2 ^ v.toNat), vbits_or t (0 ||| 2 ^ v.toNat), Nat.zero_or, Nat.or_assoc]
theorem vbits_lt {n : Nat} : ∀ {vs : List Int} {m : Nat}, (∀ v ∈ vs, 0 ≤ v ∧ v < (n : Int)) → m < 2 ^ n → vbits m vs < 2 ^ n
  | [], m, _, hm => hm
  | v :: t, m, h, hm => by
    have h1 := h v (by simp)
    have h2 : v.toNat < n := by omega
    show vbits (m ||| 2 ^ v.toNat) t < 2 ^ n
    exact @vbits_lt n t (m ||| 2 ^ v.toNat) (fun x hx => h x (by simp [hx])) (or_lt hm h2)
theorem vbits_test {j : Nat} : ∀ {vs : List Int} {m : Nat}, (∀ v ∈ vs, 0 ≤ v) → ((vbits m vs).testBit j = (m.testBit j || has vs (j : Int)))
  | [], m, _ => by simp [vbits, has]
  | v :: t, m, h => by
    have hv := h v (by simp)
    rw [vbits, vbits_test (fun x hx => h x (by simp [hx])), Nat.testBit_or, Bool.or_assoc]
    congr 1
    obtain ⟨k, rfl⟩ := Int.eq_ofNat_of_zero_le hv
    by_cases e : k = j
    · subst e
      simp [Nat.testBit_two_pow_self, has]
    · have e' : ¬ (j : Int) = (k : Int) := by omega
      simp [Nat.testBit_two_pow_of_ne e, has, e']
theorem qbits_lt {K n : Nat} : ∀ {xs : List DA} {m i : Nat}, (∀ a ∈ xs, ∀ v ∈ a.2, 0 ≤ v ∧ v < (n : Int)) → m < 2 ^ n → qbits K m i xs < 2 ^ n
  | [], m, i, _, hm => hm
  | a :: t, m, i, h, hm => by
    rw [qbits]
    refine qbits_lt (fun b hb => h b (by simp [hb])) ?_
    split
    · exact vbits_lt (h a (by simp)) hm
    · exact hm
theorem QOk.bits_lt {q : DQ} {n : Nat} (h : QOk q n) (K : Nat) : bitsOf q K < 2 ^ n := qbits_lt h.vars (Nat.two_pow_pos _)
/-- Whether some atom of a mask, from atom i on, holds variable v. -/
def someFrom (K v : Nat) : Nat → List DA → Bool
  | _, [] => false
  | i, a :: t => (bitAt K i && has a.2 (v : Int)) || someFrom K v (i + 1) t
theorem someFrom_at {K v j : Nat} {xs : List DA} {a : DA} (h : xs[j]? = some a) : someFrom K v j (xs.drop j) = ((bitAt K j && has a.2 (v : Int)) || someFrom K v (j + 1) (xs.drop (j + 1))) := by
  obtain ⟨h1, rfl⟩ := List.getElem?_eq_some_iff.1 h
  rw [List.drop_eq_getElem_cons h1]; rfl
theorem someFrom_end {K v j : Nat} {xs : List DA} (h : xs.length ≤ j) : someFrom K v j (xs.drop j) = false := by
  rw [List.drop_eq_nil_of_le h]; rfl
theorem qbits_some {K v : Nat} : ∀ {xs : List DA} {m i : Nat}, (∀ a ∈ xs, ∀ v ∈ a.2, 0 ≤ v) → ((qbits K m i xs).testBit v = (m.testBit v || someFrom K v i xs))
  | [], m, i, _ => by simp [qbits, someFrom]
  | a :: t, m, i, h => by
    rw [qbits, qbits_some (fun b hb => h b (by simp [hb])), someFrom]
    split
    · rename_i hb; rw [vbits_test (h a (by simp)), hb]; simp [Bool.or_assoc]
    · rename_i hb; simp [hb]
theorem QOk.some {q : DQ} {n : Nat} (h : QOk q n) (K v : Nat) : bitAt (bitsOf q K) v = someFrom K v 0 (q.2.drop 0) := by
  rw [bitAt_testBit, bitsOf, qbits_some (fun a ha x hx => (h.vars a ha x hx).1)]; simp
/-- The variables of a mask. -/
def varsOf (q : DQ) (K : Nat) : List Int := bitsTo (bitsOf q K) 4
theorem bitsTo_more {x n : Nat} (h : x < 2 ^ n) : ∀ k, bitsTo x (n + k) = bitsTo x n
  | 0 => rfl
  | k + 1 => by
    rw [show n + (k + 1) = n + k + 1 by omega, bitsTo_no, bitsTo_more h k]
    rw [bitAt_testBit]
    exact Nat.testBit_lt_two_pow (Nat.lt_of_lt_of_le h (Nat.pow_le_pow_right (by omega) (by omega)))
theorem QOk.varsOf {q : DQ} {n : Nat} (h : QOk q n) (K : Nat) : varsOf q K = bitsTo (bitsOf q K) n := by
  have := bitsTo_more (h.bits_lt K) (4 - n)
  rw [show n + (4 - n) = 4 by have := h.le; omega] at this
  exact this
theorem bitsTo_has {x : Nat} : ∀ {m v : Nat}, has (bitsTo x m) (v : Int) = (decide (v < m) && x.testBit v)
  | 0, v => by simp [bitsTo, has]
  | m + 1, v => by
    have ih := @bitsTo_has x m v
    simp only [has] at ih ⊢
    rw [Bool.eq_iff_iff] at ih ⊢
    simp only [decide_eq_true_eq, Bool.and_eq_true] at ih ⊢
    simp only [bitsTo, List.mem_append]
    rw [bitAt_testBit]
    constructor
    · rintro (h | h)
      · have := ih.1 h; exact ⟨by omega, this.2⟩
      · split at h
        · rename_i hb; simp only [List.mem_singleton] at h; obtain rfl : v = m := by omega
          exact ⟨by omega, hb⟩
        · simp at h
    · rintro ⟨h1, h2⟩
      rcases Nat.lt_or_ge v m with h3 | h3
      · exact .inl (ih.2 ⟨h3, h2⟩)
      · obtain rfl : v = m := by omega
        right; simp [h2]
theorem varsOf_has (q : DQ) {K v : Nat} (hv : v < 4) : has (varsOf q K) (v : Int) = (bitsOf q K).testBit v := by
  rw [Go.Proofs.Ythhbmbkecaffeaa.varsOf, bitsTo_has]; simp [hv]

/-- The full mask of a query. -/
def fullMask (q : DQ) : Int := if validQ q then ((2 ^ q.2.length - 1 : Nat) : Int) else 0
/-- Whether a query is valid and a mask one of its atoms. -/
def maskOkB (q : DQ) (k : Int) : Bool := validQ q && betw k 0 ((2 ^ q.2.length - 1 : Nat) : Int)
/-- MaskVariables. -/
def maskVars (q : DQ) (k : Int) : List Int := if maskOkB q k then varsOf q k.toNat else []
theorem maskVars_no {q : DQ} {k : Int} (h : maskOkB q k = false) : maskVars q k = [] := by simp [maskVars, h]
theorem maskVars_yes {q : DQ} {K : Nat} (h : maskOkB q (K : Int) = true) : maskVars q (K : Int) = varsOf q K := by simp [maskVars, h]
theorem maskOkB_lt {q : DQ} {k : Int} (h : maskOkB q k = true) : ∃ K : Nat, k = K ∧ K < 2 ^ q.2.length := by
  simp only [maskOkB, Bool.and_eq_true, betw, decide_eq_true_eq] at h
  have := Nat.two_pow_pos q.2.length
  exact ⟨k.toNat, by omega, by omega⟩
theorem maskOkB_valid {q : DQ} {k : Int} (h : maskOkB q k = true) : validQ q = true := by
  simp only [maskOkB, Bool.and_eq_true] at h; exact h.1
theorem varsOf_len (q : DQ) (K : Nat) : (varsOf q K).length ≤ 4 := bitsTo_len _ _
theorem maskVars_len (q : DQ) (k : Int) : (maskVars q k).length ≤ 4 := by
  unfold maskVars; split
  · exact varsOf_len _ _
  · simp
/-- What of one list is among another. -/
def both (xs ys : List Int) : List Int := xs.filter (has ys)
theorem both_yes {xs ys : List Int} {j : Nat} {x : Int} (hj : j < xs.length) (hx : xs.getD j 0 = x) (h : has ys x = true) : both (xs.take (j + 1)) ys = both (xs.take j) ys ++ [x] := by
  rw [take_snoc xs j hj, hx, both, List.filter_append, both]; simp [h]
theorem both_no {xs ys : List Int} {j : Nat} {x : Int} (hj : j < xs.length) (hx : xs.getD j 0 = x) (h : has ys x = false) : both (xs.take (j + 1)) ys = both (xs.take j) ys := by
  rw [take_snoc xs j hj, hx, both, List.filter_append, both]; simp [h]
theorem both_len (xs ys : List Int) : (both xs ys).length ≤ xs.length := List.length_filter_le _ _
theorem both_end {xs ys : List Int} {j : Nat} (h : xs.length ≤ j) : both (xs.take j) ys = both xs ys := by rw [List.take_of_length_le h]
end Go.Proofs.Ythhbmbkecaffeaa
