/- Plain facts: splits of connected masks, and how many join trees. -/
import Derived.Test.YthhbmbkecaffeaaNearP
namespace Go.Proofs.Ythhbmbkecaffeaa
open Go.RowKit
set_option linter.unusedVariables false
set_option linter.unusedSimpArgs false
set_option synthInstance.maxSize 2000
set_option synthInstance.maxHeartbeats 400000

/-- Whether m is a part of K, and both it and the rest hang together. -/
def splitB (q : DQ) (K m : Nat) : Bool := decide (m &&& K = m) && (joined q m && joined q (K - m))
def splitsTo (q : DQ) (K : Nat) : Nat → List Int
  | 0 => []
  | m + 1 => splitsTo q K m ++ (if splitB q K (m + 1) then [((m + 1 : Nat) : Int)] else [])
theorem splitsTo_len (q : DQ) (K : Nat) : ∀ m, (splitsTo q K m).length ≤ m
  | 0 => by simp [splitsTo]
  | m + 1 => by have := splitsTo_len q K m; simp only [splitsTo, List.length_append]; split <;> simp <;> omega
theorem splitsTo_yes {q : DQ} {K m : Nat} (h : splitB q K (m + 1) = true) : splitsTo q K (m + 1) = splitsTo q K m ++ [((m + 1 : Nat) : Int)] := by rw [splitsTo, h]; rfl
theorem splitsTo_no {q : DQ} {K m : Nat} (h : splitB q K (m + 1) = false) : splitsTo q K (m + 1) = splitsTo q K m := by rw [splitsTo, h]; simp
theorem splitsTo_mem {q : DQ} {K : Nat} : ∀ {m : Nat} {x : Int}, x ∈ splitsTo q K m → ∃ y : Nat, x = y ∧ 1 ≤ y ∧ y ≤ m ∧ splitB q K y = true
  | 0, x, h => by simp [splitsTo] at h
  | m + 1, x, h => by
    simp only [splitsTo, List.mem_append] at h
    rcases h with h | h
    · obtain ⟨y, h1, h2, h3, h4⟩ := splitsTo_mem h; exact ⟨y, h1, h2, by omega, h4⟩
    · split at h
      · rename_i hb; simp only [List.mem_singleton] at h; exact ⟨m + 1, h, by omega, Nat.le_refl _, hb⟩
      · simp at h
theorem splitsTo_has {q : DQ} {K : Nat} : ∀ {m y : Nat}, 1 ≤ y → y ≤ m → splitB q K y = true → ((y : Nat) : Int) ∈ splitsTo q K m
  | 0, y, h1, h2, _ => by omega
  | m + 1, y, h1, h2, h3 => by
    simp only [splitsTo, List.mem_append]
    rcases Nat.lt_or_ge m y with h | h
    · obtain rfl : y = m + 1 := by omega
      right; rw [h3]; simp
    · exact .inl (splitsTo_has h1 h h3)
/-- Parts of a mask. -/
theorem part_facts' : ∀ K, K < 16 → ∀ x, x < 16 → (decide (x &&& K = x) && !decide (x = 0) && !decide (x = K)) = true → (decide (pc x < pc K) && decide (pc (K - x) < pc K) && decide (1 ≤ pc x) && decide (1 ≤ pc (K - x)) && decide (x < K)) = true := by decide +kernel
theorem part_facts (K : Nat) (hK : K < 16) (x : Nat) (hx : x < 16) (h1 : x &&& K = x) (h2 : x ≠ 0) (h3 : x ≠ K) : pc x < pc K ∧ pc (K - x) < pc K ∧ 1 ≤ pc x ∧ 1 ≤ pc (K - x) ∧ x < K := by
  have h := part_facts' K hK x hx (by simp [h1, h2, h3])
  simp only [Bool.and_eq_true, decide_eq_true_eq] at h
  exact ⟨h.1.1.1.1, h.1.1.1.2, h.1.1.2, h.1.2, h.2⟩
theorem pc_one : ∀ K, K < 16 → pc K ≤ 1 → K &&& (K - 1) = 0 := by decide +kernel
theorem pc_zero : ∀ K, K < 16 → K ≠ 0 → 1 ≤ pc K := by decide +kernel

/-- How many join trees a mask has; f: how deep we look. -/
def cntT (q : DQ) : Nat → Nat → Nat
  | 0, _ => 0
  | f + 1, K => if conn q K = false then 0 else if K &&& (K - 1) = 0 then 1 else ((splitsTo q K (K - 1)).map (fun x => cntT q f x.toNat * cntT q f (K - x.toNat))).sum
def bndT : Nat → Nat
  | 0 => 1
  | p + 1 => 15 * (bndT p * bndT p)
theorem sum_bound {α : Type} {g : α → Nat} {B : Nat} : ∀ {l : List α}, (∀ x ∈ l, g x ≤ B) → (l.map g).sum ≤ l.length * B
  | [], _ => by simp
  | x :: t, h => by
    have h1 := h x (by simp)
    have h2 := sum_bound (fun y hy => h y (List.mem_cons_of_mem x hy))
    simp only [List.map_cons, List.sum_cons, List.length_cons, Nat.add_mul, Nat.one_mul]
    omega
theorem bndT_pos : ∀ p, 1 ≤ bndT p
  | 0 => Nat.le_refl _
  | p + 1 => by have := bndT_pos p; have := Nat.mul_le_mul this this; simp only [bndT]; omega
theorem cntT_bound (q : DQ) : ∀ (p f K : Nat), K < 16 → pc K ≤ p + 1 → cntT q f K ≤ bndT p
  | p, 0, K, _, _ => by simp [cntT]
  | 0, f + 1, K, hK, hp => by
    rw [cntT]
    split
    · simp
    · rw [if_pos (pc_one K hK hp)]; exact Nat.le_refl _
  | p + 1, f + 1, K, hK, hp => by
    rw [cntT]
    split
    · simp
    · split
      · exact bndT_pos _
      · refine Nat.le_trans (sum_bound (B := bndT p * bndT p) (fun x hx => ?_)) ?_
        · obtain ⟨y, rfl, h1, h2, h3⟩ := splitsTo_mem hx
          simp only [splitB, Bool.and_eq_true, decide_eq_true_eq] at h3
          obtain ⟨f1, f2, _⟩ := part_facts K hK y (by omega) h3.1 (by omega) (by omega)
          simp only [Int.toNat_natCast]
          exact Nat.mul_le_mul (cntT_bound q p f y (by omega) (by omega)) (cntT_bound q p f (K - y) (by omega) (by omega))
        · have := splitsTo_len q K (K - 1)
          exact Nat.mul_le_mul (by omega) (Nat.le_refl _)
theorem cntT_small (q : DQ) (f K : Nat) (hK : K < 16) : cntT q f K ≤ 170859375 := by
  have h1 := pc_len 4 (by omega) K hK hK
  have h2 := cntT_bound q 3 f K hK (by omega)
  have h3 : bndT 3 = 170859375 := by decide
  omega
/-- Enough depth is enough. -/
theorem cntT_deep (q : DQ) : ∀ (f g K : Nat), K < 16 → K < f → K < g → cntT q f K = cntT q g K
  | 0, _, K, _, h, _ => by omega
  | _ + 1, 0, K, _, _, h => by omega
  | f + 1, g + 1, K, hK, hf, hg => by
    rw [cntT, cntT]
    split
    · rfl
    · split
      · rfl
      · congr 1
        apply List.map_congr_left
        intro x hx
        obtain ⟨y, rfl, h1, h2, h3⟩ := splitsTo_mem hx
        simp only [splitB, Bool.and_eq_true, decide_eq_true_eq] at h3
        obtain ⟨_, _, _, _, f5⟩ := part_facts K hK y (by omega) h3.1 (by omega) (by omega)
        simp only [Int.toNat_natCast]
        rw [cntT_deep q f g y (by omega) (by omega) (by omega), cntT_deep q f g (K - y) (by omega) (by omega) (by omega)]
/-- The number of join trees. -/
def treesN (q : DQ) (K : Nat) : Nat := cntT q 16 K
theorem treesN_eq (q : DQ) (K : Nat) : treesN q K = if conn q K = false then 0 else if K &&& (K - 1) = 0 then 1 else ((splitsTo q K (K - 1)).map (fun x => cntT q 15 x.toNat * cntT q 15 (K - x.toNat))).sum := by
  show cntT q (15 + 1) K = _
  exact cntT.eq_2 q K 15
theorem treesN_no {q : DQ} {K : Nat} (h : conn q K = false) : treesN q K = 0 := by rw [treesN_eq, if_pos h]
theorem treesN_one {q : DQ} {K : Nat} (h : conn q K = true) (h1 : K &&& (K - 1) = 0) : treesN q K = 1 := by rw [treesN_eq, if_neg (by simp [h]), if_pos h1]
theorem treesN_sum {q : DQ} {K : Nat} (hK : K < 16) (h : conn q K = true) (h1 : K &&& (K - 1) ≠ 0) : treesN q K = ((splitsTo q K (K - 1)).map (fun x => treesN q x.toNat * treesN q (K - x.toNat))).sum := by
  rw [treesN_eq, if_neg (by simp [h]), if_neg h1]
  refine congrArg List.sum (List.map_congr_left (fun x hx => ?_))
  obtain ⟨y, rfl, h2, h3, h4⟩ := splitsTo_mem hx
  rw [Int.toNat_natCast, cntT_deep q 15 16 y (by omega) (by omega) (by omega), cntT_deep q 15 16 (K - y) (by omega) (by omega) (by omega)]
  rfl
theorem treesN_small (q : DQ) (K : Nat) (hK : K < 16) : treesN q K ≤ 170859375 := cntT_small q 16 K hK
end Go.Proofs.Ythhbmbkecaffeaa
