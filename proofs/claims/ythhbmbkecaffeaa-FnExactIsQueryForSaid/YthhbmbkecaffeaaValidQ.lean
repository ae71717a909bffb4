/- Contracts: whether a query is valid. -/
import Derived.Test.YthhbmbkecaffeaaKQ
import Derived.Test.YthhbmbkecaffeaaHas
import Derived.Test.YthhbmbkecaffeaaName
import Derived.Test.YthhbmbkecaffeaaBits
namespace Go.Proofs.Ythhbmbkecaffeaa
open Go.RowKit
set_option linter.unusedVariables false
set_option linter.unusedSimpArgs false

/-- Variables as bits, laid over some. -/
def vbits (m : Nat) : List Int → Nat
  | [] => m
  | v :: t => vbits (m ||| 2 ^ v.toNat) t
def varsFrom (n : Int) (pre : List Int) : List Int → Bool
  | [] => true
  | v :: t => betw v 0 (n - 1) && !has pre v && varsFrom n (pre ++ [v]) t
def validFrom (n m : Nat) : List DA → Bool
  | [] => decide (m = 2 ^ n - 1)
  | a :: t => nameB a.1 && betw a.2.length 1 3 && (varsFrom n [] a.2 && validFrom n (vbits m a.2) t)
/-- Whether a query is valid. -/
def validQ (q : DQ) : Bool := betw q.1 1 4 && betw q.2.length 1 4 && validFrom q.1.toNat 0 q.2

theorem validQ_no1 {q : DQ} (h : betw q.1 1 4 = false) : validQ q = false := by simp [validQ, h]
theorem validQ_no2 {q : DQ} (h : betw q.2.length 1 4 = false) : validQ q = false := by simp [validQ, h]
theorem validQ_go {n : Nat} {xs : List DA} (h : betw (n : Int) 1 4 = true) (h' : betw xs.length 1 4 = true) : validQ ((n : Int), xs) = validFrom n 0 (xs.drop 0) := by simp [validQ, h, h']
theorem validFrom_at {n m j : Nat} {xs : List DA} {a : DA} (h : xs[j]? = some a) : validFrom n m (xs.drop j) = (nameB a.1 && betw a.2.length 1 3 && (varsFrom n (a.2.take 0) (a.2.drop 0) && validFrom n (vbits m (a.2.drop 0)) (xs.drop (j + 1)))) := by
  obtain ⟨h1, rfl⟩ := List.getElem?_eq_some_iff.1 h
  rw [List.drop_eq_getElem_cons h1]; simp [validFrom]
theorem validFrom_end {n m j : Nat} {xs : List DA} (h : xs.length ≤ j) : validFrom n m (xs.drop j) = decide (m = 2 ^ n - 1) := by
  rw [List.drop_eq_nil_of_le h]; rfl
theorem vars_no {n : Int} {k : Nat} {v : Int} {vs : List Int} (hk : k < vs.length) (hv : vs.getD k 0 = v) (h : (betw v 0 (n - 1) && !has (vs.take k) v) = false) : varsFrom n (vs.take k) (vs.drop k) = false := by
  rw [drop_cons vs k hk, hv, varsFrom, h]; rfl
theorem vars_yes {n : Int} {k : Nat} {v : Int} {vs : List Int} (hk : k < vs.length) (hv : vs.getD k 0 = v) (h : betw v 0 (n - 1) = true) (h' : has (vs.take k) v = false) : varsFrom n (vs.take k) (vs.drop k) = varsFrom n (vs.take (k + 1)) (vs.drop (k + 1)) := by
  rw [drop_cons vs k hk, hv, varsFrom, h, h', take_snoc vs k hk, hv]; simp
theorem vbits_at {m k : Nat} {v : Nat} {vs : List Int} (hk : k < vs.length) (hv : vs.getD k 0 = (v : Int)) : vbits m (vs.drop k) = vbits (m ||| 2 ^ v) (vs.drop (k + 1)) := by
  rw [drop_cons vs k hk, hv, vbits]; simp
theorem vars_end {n : Int} {k : Nat} {vs : List Int} (hk : vs.length ≤ k) : varsFrom n (vs.take k) (vs.drop k) = true := by
  rw [List.drop_eq_nil_of_le hk]; rfl
theorem vbits_end {m k : Nat} {vs : List Int} (hk : vs.length ≤ k) : vbits m (vs.drop k) = m := by
  rw [List.drop_eq_nil_of_le hk]; rfl
theorem or_lt {m v n : Nat} (h : m < 2 ^ n) (hv : v < n) : m ||| 2 ^ v < 2 ^ n := Nat.or_lt_two_pow h (Nat.pow_lt_pow_right (by omega) hv)
theorem pow_le16 {n : Nat} (h : n ≤ 4) : 2 ^ n ≤ 16 := by
  have := Nat.pow_le_pow_right (show 0 < 2 by omega) h
  omega
theorem Ints.takeTo {w : World} {a : Option Addr} {n : Nat} {xs : List Int} (h : Ints w a n xs) {k : Nat} (hk : k ≤ n) : Ints w a k (xs.take k) := by
  have hl := h.len
  refine ⟨by simp; omega, by have := h.small; omega, fun i hi => ?_, fun x hx => h.rng x (List.mem_of_mem_take hx)⟩
  obtain ⟨b, off, ha, hc⟩ := h.cell i (by omega)
  refine ⟨b, off, ha, ?_⟩
  rw [hc]
  congr 2
  simp [List.getD_eq_getElem?_getD, hi]

/-- Block g holds n bools: the bits of m. -/
structure Bools (w : World) (g n m : Nat) : Prop where
  blk : ∃ E, w.heap[g]? = some (.cells ((List.range n).map (fun i => Value.bool (m.testBit i))).toArray E)
theorem Bools.below {w w' : World} {g n m C : Nat} (h : Bools w g n m) (hb : Below C w w') (hC : g < C) : Bools w' g n m := by
  obtain ⟨E, h⟩ := h.blk
  exact ⟨E, by rw [hb.block g hC]; exact h⟩
theorem Bools.cell {w : World} {g n m : Nat} (h : Bools w g n m) {i : Nat} (hi : i < n) : w.cell? ⟨g, i, none⟩ = some (.bool (m.testBit i)) := by
  obtain ⟨E, h⟩ := h.blk
  simp [World.cell?, h, hi]
theorem Bools.frozen {w : World} {g n m : Nat} (h : Bools w g n m) (i : Nat) : w.frozen? ⟨g, i, none⟩ = false := by
  obtain ⟨E, h⟩ := h.blk
  simp [World.frozen?, h]
theorem Bools.lt {w : World} {g n m : Nat} (h : Bools w g n m) : g < w.heap.size := by
  obtain ⟨E, h⟩ := h.blk
  exact (Array.getElem?_eq_some_iff.1 h).1
theorem Bools.set {w : World} {g n m : Nat} (h : Bools w g n m) {v : Nat} (hv : v < n) : Bools (w.setCell ⟨g, v, none⟩ (.bool true)) g n (m ||| 2 ^ v) := by
  obtain ⟨E, h⟩ := h.blk
  refine ⟨E, ?_⟩
  rw [heap_setCell_same w g v _ E _ h]
  congr 2
  apply Array.ext'
  simp only [Array.toList_setIfInBounds]
  apply List.ext_getElem?
  intro i
  rw [List.getElem?_set]
  by_cases hi : i < n
  · by_cases hiv : v = i
    · subst hiv; simp [hi, Nat.testBit_or, Nat.testBit_two_pow_self]
    · simp [hi, hiv, Nat.testBit_or, Nat.testBit_two_pow_of_ne hiv]
  · have : v ≠ i := by omega
    simp [hi, this]
theorem Bools.of_part {B : Nat} {w : World} {g n : Nat} {xs : List Bool} {E : TypeId} (h : Part E O.bool [.bool false] B w g n 0 xs) : Bools w g n 0 := by
  obtain ⟨css, fps, h1, h2, _⟩ := h
  have : css = [] := by
    have := (O.bool.rows_len h2).1
    simpa using this
  subst this
  refine ⟨E, ?_⟩
  rw [h1]
  congr 2
  simp only [List.flatten_nil, List.nil_append, Nat.sub_zero]
  congr 1
  apply List.ext_getElem?
  intro i
  have := rep_flat [Value.bool false] (by simp) n i
  rw [this]
  by_cases hi : i < n <;> simp [hi, Nat.mod_one]

theorem Turn.setCell {lo hi : Nat} {a w : World} (h : Turn lo hi a w) {p : Addr} (h1 : lo ≤ p.block) (h2 : p.block < hi) (u : Value) : Turn lo hi a (w.setCell p u) :=
  h.trans ((Kept.refl lo hi w).setCell h1 h2 u).turn

theorem wrap_pow {n : Nat} (h : n ≤ 16) : wrap64 ((2 : Int) ^ n) = ((2 ^ n : Nat) : Int) := by
  have h1 := Nat.pow_le_pow_right (show 0 < 2 by omega) h
  have h2 : ((2 : Int) ^ n) = ((2 ^ n : Nat) : Int) := by simp
  rw [h2]
  generalize 2 ^ n = p at h1
  exact IntWalk.wrap64_in _ ⟨by omega, by omega⟩
theorem or_pow {m v : Nat} (hm : m < 65536) (hv : v ≤ 16) : bits .or .i64 (m : Int) (wrap64 ((2 : Int) ^ v)) = ((m ||| 2 ^ v : Nat) : Int) := by
  have h1 := Nat.pow_le_pow_right (show 0 < 2 by omega) hv
  rw [wrap_pow hv]
  generalize 2 ^ v = p at h1
  exact bits_or_nat _ _ (by omega) (by omega)
theorem full_eq {m n : Nat} (hn : n ≤ 16) : ((m : Int) == wrap64 (wrap64 ((2 : Int) ^ n) - 1)) = decide (m = 2 ^ n - 1) := by
  have h1 := Nat.pow_le_pow_right (show 0 < 2 by omega) hn
  have h2 := Nat.two_pow_pos n
  rw [wrap_pow hn]
  generalize 2 ^ n = p at h1 h2
  rw [IntWalk.wrap64_in _ ⟨by omega, by omega⟩, Bool.eq_iff_iff]
  simp only [beq_iff_eq, decide_eq_true_eq]
  omega

set_option maxHeartbeats 400000 in
theorem indexBools (g n m cap : Nat) (w : World) (h : Bools w g n m) (hn : n ≤ 4) (hm : m < 2 ^ n) :
    Calls Try.prog 122 #[.slice (some ⟨g, 0, none⟩) n cap, .bool false] w fun e w' => ∃ r : Int, e = .returned (.int .i64 r) ∧ decide (0 ≤ r) = !decide (m = 2 ^ n - 1) ∧ w = w' := by
  go_enter Try.func122, Try.ntmps122
  go_wp2
  go_loop [5, 8] (fun _ i => ∃ j : Nat, j ≤ n ∧ i = .int .i64 j ∧ Hid (∀ i, i < j → m.testBit i = true)) (fun _ i => n - (intOf i).toNat)
  case atStart => exact ⟨0, Nat.zero_le _, rfl, by simp [Hid]⟩
  case round =>
    obtain ⟨j, hj, rfl, hE⟩ := hrel
    by_cases hlt : j < n
    · have hc := h.cell hlt
      obtain ⟨t, ht⟩ : ∃ t, t = m.testBit j := ⟨_, rfl⟩
      rw [← ht] at hc
      cases t with
      | true =>
        have HE := Lib.hid (show ∀ i, i < j + 1 → m.testBit i = true by
          intro i hi
          rcases Nat.lt_or_ge i j with h1 | h1
          · exact hE.out i h1
          · obtain rfl : i = j := by omega
            exact ht.symm)
        clear h ht hm
        go_wp2
        go_round
        case rel => exact ⟨j + 1, by omega, by go_num, HE.out⟩
        case measure => simp [intOf]; omega
      | false =>
        have HE := Lib.hid (show (!decide (m = 2 ^ n - 1)) = true by
          simp only [Bool.not_eq_true', decide_eq_false_iff_not]
          intro e
          subst e
          rw [Nat.testBit_two_pow_sub_one] at ht
          simp [hlt] at ht)
        clear h ht hm
        go_wp2
        go_ret
        exact ⟨_, rfl, by rw [HE.out]; simp, rfl⟩
    · have HE := Lib.hid (show (!decide (m = 2 ^ n - 1)) = false by
        simp only [Bool.not_eq_false', decide_eq_true_eq]
        apply Nat.eq_of_testBit_eq
        intro i
        rw [Nat.testBit_two_pow_sub_one]
        by_cases hi : i < n
        · rw [hE.out i (by omega)]; simp [hi]
        · simp only [hi, decide_false]
          exact Nat.testBit_lt_two_pow (Nat.lt_of_lt_of_le hm (Nat.pow_le_pow_right (by omega) (by omega))))
      clear h hm
      go_wp2
      go_ret
      exact ⟨_, rfl, by rw [HE.out]; rfl, rfl⟩

theorem containsBools (g n m cap : Nat) (w : World) (h : Bools w g n m) (hn : n ≤ 4) (hm : m < 2 ^ n) :
    Calls Try.prog 94 #[.slice (some ⟨g, 0, none⟩) n cap, .bool false] w fun e w' => e = .returned (.bool (!decide (m = 2 ^ n - 1))) ∧ w = w' := by
  go_enter Try.func94, Try.ntmps94
  go_wp2_with fail
  refine (indexBools _ _ _ _ _ h hn hm).mono ?_
  rintro e w' ⟨r, rfl, hr, rfl⟩
  have HR := Lib.hid hr
  clear hr hm
  go_wp2_with fail
  go_ret
  exact ⟨ret_bool HR.out, rfl⟩

end Go.Proofs.Ythhbmbkecaffeaa
