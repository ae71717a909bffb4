/- Texts joined for one claim: MissP. -/
import Derived.Test.YtehcjdbljdpmbaaDoorQ5100ed5e2b
import Derived.Test.YtehcjdbljdpmbaaDoorQ749eee4b15
import Derived.Lib.SlicesCompact

/- Plain: values that are missing; rows sorted and compacted. -/
namespace Go.Proofs.YtehcjdbljdpmbaaDoor
open Go.RowKit
set_option linter.unusedVariables false
set_option linter.unusedSimpArgs false

/-- Strictly ascending numbers of the same members are the same. -/
theorem asc_uniq {l m : List Int} (h : l.Pairwise (· < ·)) (k : m.Pairwise (· < ·)) (hm : ∀ x, x ∈ l ↔ x ∈ m) : l = m := by
  have n1 : l.Nodup := h.imp fun h => by omega
  have n2 : m.Nodup := k.imp fun h => by omega
  refine List.Perm.eq_of_pairwise (le := (· ≤ ·)) (fun a b _ _ => Int.le_antisymm) (h.imp fun h => by omega) (k.imp fun h => by omega) ((List.perm_ext_iff_of_nodup n1 n2).2 hm)
/-- What slices.Compact leaves of a sorted list. -/
theorem compact_strict {zs : List Int} (h : zs.Pairwise (· ≤ ·)) : (Lib.compact zs).Pairwise (· < ·) ∧ ∀ x, x ∈ Lib.compact zs ↔ x ∈ zs := by
  have get : ∀ j, j < zs.length → zs.toArray[j]! = zs.getD j 0 := fun j hj => by simp [hj]
  have mono : ∀ i j, i ≤ j → j < zs.length → zs.getD i 0 ≤ zs.getD j 0 := fun i j hij hj => by
    rcases Nat.eq_or_lt_of_le hij with rfl | hlt
    · exact Int.le_refl _
    · have := (List.pairwise_iff_getElem.1 h) i j (by omega) hj hlt
      rw [List.getD_eq_getElem?_getD, List.getD_eq_getElem?_getD, List.getElem?_eq_getElem hj, List.getElem?_eq_getElem (show i < zs.length by omega)]
      exact this
  have memD : ∀ x, x ∈ zs ↔ ∃ j, j < zs.length ∧ zs.getD j 0 = x := fun x => by
    rw [List.mem_iff_getElem]
    constructor
    · rintro ⟨j, hj, rfl⟩; exact ⟨j, hj, by rw [List.getD_eq_getElem?_getD, List.getElem?_eq_getElem hj]; rfl⟩
    · rintro ⟨j, hj, rfl⟩; exact ⟨j, hj, by rw [List.getD_eq_getElem?_getD, List.getElem?_eq_getElem hj]; rfl⟩
  unfold Lib.compact Lib.compactUpTo
  constructor
  · rw [List.pairwise_map]
    refine List.Pairwise.imp_of_mem ?_ (List.Pairwise.filter _ (List.pairwise_lt_range (n := zs.length)))
    intro i j hi hj hij
    simp only [List.mem_filter, List.mem_range, Lib.keeps, decide_eq_true_eq] at hi hj
    rw [get i hi.1, get j hj.1]
    rw [get j hj.1, get (j - 1) (by omega)] at hj
    have h1 := mono i (j - 1) (by omega) (by omega)
    have h2 := mono (j - 1) j (by omega) hj.1
    have h3 : zs.getD j 0 ≠ zs.getD (j - 1) 0 := by
      rcases hj.2 with h | h
      · omega
      · exact h
    omega
  · intro x
    simp only [List.mem_map, List.mem_filter, List.mem_range]
    rw [memD]
    constructor
    · rintro ⟨j, ⟨hj, _⟩, rfl⟩; exact ⟨j, hj, (get j hj).symm⟩
    · rintro ⟨j, hj, rfl⟩
      have key : ∀ j, j < zs.length → ∃ i, (i < zs.length ∧ Lib.keeps zs.toArray i = true) ∧ zs.toArray[i]! = zs.getD j 0 := by
        intro j
        induction j with
        | zero => intro hj; exact ⟨0, ⟨hj, by simp [Lib.keeps]⟩, get 0 hj⟩
        | succ j ih =>
          intro hj
          by_cases e : zs.getD (j + 1) 0 = zs.getD j 0
          · obtain ⟨i, h1, h2⟩ := ih (by omega)
            exact ⟨i, h1, h2.trans e.symm⟩
          · exact ⟨j + 1, ⟨hj, by
              simp only [Lib.keeps, decide_eq_true_eq]
              exact .inr (by rw [show j + 1 - 1 = j by omega, get _ hj, get j (by omega)]; exact e)⟩, get _ hj⟩
      exact key j hj
/-- The values of a column. -/
def colVals (rows : List (List Int)) (c : Nat) : List Int := rows.map (fun r => r.getD c 0)
/-- The values below n that stand in one column and not in the other. -/
def missTo (a b : List Int) : Nat → List Int
  | 0 => []
  | n + 1 => missTo a b n ++ (if has a (n : Int) && !has b (n : Int) then [(n : Int)] else [])
theorem missTo_yes {a b : List Int} {n : Nat} (h : has a (n : Int) = true) (h' : has b (n : Int) = false) : missTo a b (n + 1) = missTo a b n ++ [(n : Int)] := by simp [missTo, h, h']
theorem missTo_no {a b : List Int} {n : Nat} (h : (has a (n : Int) && !has b (n : Int)) = false) : missTo a b (n + 1) = missTo a b n := by rw [missTo, h]; simp
theorem missTo_len (a b : List Int) : ∀ n, (missTo a b n).length ≤ n
  | 0 => by simp [missTo]
  | n + 1 => by
    have := missTo_len a b n
    rw [missTo]; split <;> simp <;> omega
theorem missTo_spec (a b : List Int) : ∀ n, (missTo a b n).Pairwise (· < ·) ∧ ∀ x, x ∈ missTo a b n ↔ ∃ j : Nat, j < n ∧ x = (j : Int) ∧ has a x = true ∧ has b x = false
  | 0 => by simp [missTo]
  | n + 1 => by
    obtain ⟨h1, h2⟩ := missTo_spec a b n
    by_cases hb : (has a (n : Int) && !has b (n : Int)) = true
    · rw [missTo, hb, if_pos rfl]
      simp only [Bool.and_eq_true, Bool.not_eq_true'] at hb
      refine ⟨?_, fun x => ?_⟩
      · rw [List.pairwise_append]
        refine ⟨h1, by simp, ?_⟩
        intro x hx y hy
        simp only [List.mem_singleton] at hy
        subst hy
        obtain ⟨j, hj, rfl, _⟩ := (h2 x).1 hx
        omega
      · simp only [List.mem_append, List.mem_singleton, h2]
        constructor
        · rintro (⟨j, hj, rfl, h⟩ | rfl)
          · exact ⟨j, by omega, rfl, h⟩
          · exact ⟨n, by omega, rfl, hb⟩
        · rintro ⟨j, hj, rfl, h⟩
          by_cases e : j = n
          · subst e; exact .inr rfl
          · exact .inl ⟨j, by omega, rfl, h⟩
    · rw [missTo_no (by simpa using hb)]
      refine ⟨h1, fun x => ?_⟩
      rw [h2]
      constructor
      · rintro ⟨j, hj, rfl, h⟩; exact ⟨j, by omega, rfl, h⟩
      · rintro ⟨j, hj, rfl, h⟩
        by_cases e : j = n
        · subst e; exact absurd (by simp [h]) hb
        · exact ⟨j, by omega, rfl, h⟩
/-- What the program makes: those not there, sorted, each once. -/
theorem miss_impl {a b : List Int} (h : ∀ x ∈ a, 0 ≤ x ∧ x ≤ 9) : Lib.compact ((a.filter (fun x => !has b x)).mergeSort (fun x y => decide (x ≤ y))) = missTo a b 10 := by
  obtain ⟨h1, h2⟩ := compact_strict (zs := (a.filter (fun x => !has b x)).mergeSort (fun x y => decide (x ≤ y))) (by
    have := List.pairwise_mergeSort (le := fun x y : Int => decide (x ≤ y)) (by intro a b c; simp; omega) (by intro a b; simp; omega) (a.filter (fun x => !has b x))
    exact this.imp fun h => by simpa using h)
  obtain ⟨h3, h4⟩ := missTo_spec a b 10
  refine asc_uniq h1 h3 fun x => ?_
  rw [h2, h4, List.mem_mergeSort, List.mem_filter]
  constructor
  · rintro ⟨hx, hb⟩
    have := h x hx
    exact ⟨x.toNat, by omega, by omega, by simp [has, hx], by simpa using hb⟩
  · rintro ⟨j, _, rfl, ha, hb⟩
    exact ⟨by simpa [has] using ha, by simp [hb]⟩
/-- MissingValues. -/
def missing (db : DDb) (x : DIn) : List Int := if validIn db x then missTo (colVals (lookT (look db x.1)).2.2 x.2.1.toNat) (colVals (lookT (look db x.2.2.1)).2.2 x.2.2.2.toNat) 10 else []
theorem missing_len (db : DDb) (x : DIn) : (missing db x).length ≤ 10 := by
  unfold missing; split
  · exact missTo_len _ _ 10
  · simp

end Go.Proofs.YtehcjdbljdpmbaaDoor
