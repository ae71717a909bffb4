/- Plain facts: neighbors and connected masks. -/
import Derived.Test.YthhbmbkecaffeaaMaskP
namespace Go.Proofs.Ythhbmbkecaffeaa
open Go.RowKit
set_option linter.unusedVariables false
set_option linter.unusedSimpArgs false

/-- The atoms, from atom i on, outside a mask that share a variable with what is known; m: what is found already. -/
def nearFrom (K B m : Nat) : Nat → List DA → Nat
  | _, [] => m
  | i, a :: t => nearFrom K B (if !bitAt K i && decide (vbits 0 a.2 &&& B ≠ 0) then m ||| 2 ^ i else m) (i + 1) t
/-- The neighbors of a mask. -/
def near (q : DQ) (K : Nat) : Nat := nearFrom K (bitsOf q K) 0 0 q.2
theorem nearFrom_at {K B m j : Nat} {xs : List DA} {a : DA} (h : xs[j]? = some a) : nearFrom K B m j (xs.drop j) = nearFrom K B (if !bitAt K j && decide (vbits 0 a.2 &&& B ≠ 0) then m ||| 2 ^ j else m) (j + 1) (xs.drop (j + 1)) := by
  obtain ⟨h1, rfl⟩ := List.getElem?_eq_some_iff.1 h
  rw [List.drop_eq_getElem_cons h1]; rfl
theorem nearFrom_end {K B m j : Nat} {xs : List DA} (h : xs.length ≤ j) : nearFrom K B m j (xs.drop j) = m := by
  rw [List.drop_eq_nil_of_le h]; rfl
theorem nearFrom_lt {K B n : Nat} : ∀ {xs : List DA} {m i : Nat}, i + xs.length ≤ n → m < 2 ^ n → nearFrom K B m i xs < 2 ^ n
  | [], m, i, _, hm => hm
  | a :: t, m, i, h, hm => by
    simp only [List.length_cons] at h
    rw [nearFrom]
    refine nearFrom_lt (by omega) ?_
    split
    · exact or_lt hm (by omega)
    · exact hm
theorem near_lt (q : DQ) (K : Nat) : near q K < 2 ^ q.2.length := nearFrom_lt (by omega) (Nat.two_pow_pos _)

/-- The variables of a single atom. -/
theorem qbits_pow {i : Nat} : ∀ {xs : List DA} {m k j : Nat} {a : DA}, xs[j]? = some a → i = k + j → qbits (2 ^ i) m k xs = vbits m a.2
  | [], m, k, j, a, h, _ => by simp at h
  | x :: t, m, k, 0, a, h, hi => by
    simp at h; subst h
    obtain rfl : i = k := by omega
    rw [qbits, bitAt_testBit, Nat.testBit_two_pow_self, if_pos rfl]
    have : ∀ (xs : List DA) (m l : Nat), i < l → qbits (2 ^ i) m l xs = m := by
      intro xs
      induction xs with
      | nil => intro m l _; rfl
      | cons y ys ih => intro m l hl; rw [qbits, bitAt_testBit, Nat.testBit_two_pow_of_ne (by omega)]; simp only [Bool.false_eq_true, if_false]; exact ih m (l + 1) (by omega)
    exact this t _ _ (by omega)
  | x :: t, m, k, j + 1, a, h, hi => by
    rw [qbits, bitAt_testBit, Nat.testBit_two_pow_of_ne (by omega)]
    simp only [Bool.false_eq_true, if_false]
    exact qbits_pow (j := j) (by simpa using h) (by omega)
theorem bitsOf_pow {q : DQ} {j : Nat} {a : DA} (h : q.2[j]? = some a) : bitsOf q (2 ^ j) = vbits 0 a.2 := qbits_pow h (by omega)

/-- Some variable of an atom is among a mask's, said in both ways. -/
theorem both_pos {q : DQ} {n : Nat} (hq : QOk q n) {a : DA} (ha : a ∈ q.2) (K : Nat) : decide (0 < (both a.2 (varsOf q K)).length) = decide (vbits 0 a.2 &&& bitsOf q K ≠ 0) := by
  have hv := hq.vars a ha
  have hn := hq.le
  rw [Bool.eq_iff_iff]
  simp only [decide_eq_true_eq]
  constructor
  · intro h
    obtain ⟨x, hx⟩ := List.exists_mem_of_length_pos h
    simp only [both, List.mem_filter] at hx
    have h1 := hv x hx.1
    obtain ⟨v, rfl⟩ := Int.eq_ofNat_of_zero_le h1.1
    rw [varsOf_has q (by omega)] at hx
    intro e
    have h2 : (vbits 0 a.2 &&& bitsOf q K).testBit v = true := by
      rw [Nat.testBit_and, vbits_test (fun y hy => (hv y hy).1), hx.2]
      simp [has, hx.1]
    rw [e] at h2
    simp at h2
  · intro h
    obtain ⟨v, hv2⟩ := Nat.exists_testBit_of_ne_zero h
    rw [Nat.testBit_and, Bool.and_eq_true, vbits_test (fun y hy => (hv y hy).1)] at hv2
    simp only [Nat.zero_testBit, Bool.false_or] at hv2
    have hm : (v : Int) ∈ a.2 := by simpa [has] using hv2.1
    have h1 := hv _ hm
    refine List.length_pos_of_mem (a := (v : Int)) ?_
    simp only [both, List.mem_filter]
    exact ⟨hm, by rw [varsOf_has q (by omega)]; exact hv2.2⟩

/-- The lowest bit of a mask. -/
def lowB (K : Nat) : Nat := if K % 2 = 1 then 1 else if K % 4 = 2 then 2 else if K % 8 = 4 then 4 else if K % 16 = 8 then 8 else 0
/-- One step more. -/
def stepM (q : DQ) (K g : Nat) : Nat := g ||| (near q g &&& K)
def iterM (q : DQ) (K : Nat) : Nat → Nat → Nat
  | 0, g => g
  | k + 1, g => iterM q K k (stepM q K g)
/-- Whether the atoms of a mask hang together (so said also of the empty mask). -/
def joined (q : DQ) (K : Nat) : Bool := decide (iterM q K q.2.length (lowB K) = K)
/-- How many bits. -/
def pc (x : Nat) : Nat := x % 2 + x / 2 % 2 + x / 4 % 2 + x / 8 % 2
theorem pc_lt : ∀ a, a < 16 → ∀ b, b < 16 → a ||| b ≠ a → pc a < pc (a ||| b) := by decide +kernel
theorem pc_le : ∀ a, a < 16 → ∀ b, b < 16 → a ||| b = b → pc a ≤ pc b := by decide +kernel
theorem pc_len : ∀ n, n < 5 → ∀ K, K < 16 → K < 2 ^ n → pc K ≤ n := by decide +kernel
theorem low_facts : ∀ K, K < 16 → lowB K ||| K = K ∧ lowB K < 16 ∧ (K ≠ 0 → pc (lowB K) = 1) := by decide +kernel
theorem or_sub : ∀ g, g < 16 → ∀ K, K < 16 → ∀ x, x < 16 → g ||| K = K → (g ||| (x &&& K)) ||| K = K := by decide +kernel
theorem sub_lt : ∀ g, g < 16 → ∀ K, K < 16 → g ||| K = K → g ≤ K := by decide +kernel
theorem stepM_lt {q : DQ} {K g : Nat} (hq : q.2.length ≤ 4) (hg : g < 16) : stepM q K g < 16 := by
  have h1 := near_lt q g
  have h2 := Nat.lt_of_lt_of_le h1 (pow_le16 hq)
  exact Nat.or_lt_two_pow (n := 4) hg (Nat.lt_of_le_of_lt Nat.and_le_left h2)
theorem stepM_sub {q : DQ} {K g : Nat} (hq : q.2.length ≤ 4) (hg : g < 16) (hK : K < 16) (h : g ||| K = K) : stepM q K g ||| K = K :=
  or_sub g hg K hK _ (Nat.lt_of_lt_of_le (near_lt q g) (pow_le16 hq)) h
theorem iterM_fix {q : DQ} {K g : Nat} (h : stepM q K g = g) : ∀ k, iterM q K k g = g
  | 0 => rfl
  | k + 1 => by rw [iterM, h]; exact iterM_fix h k
theorem iterM_lt {q : DQ} {K : Nat} (hq : q.2.length ≤ 4) : ∀ k g, g < 16 → iterM q K k g < 16
  | 0, g, h => h
  | k + 1, g, h => iterM_lt hq k _ (stepM_lt hq h)
/-- A step that brings something in brings at least one bit; there are no more than the mask's. -/
theorem step_room {q : DQ} {K g i : Nat} (hq : q.2.length ≤ 4) (hg : g < 16) (hK : K < 2 ^ q.2.length) (hs : g ||| K = K) (hi : i + 1 ≤ pc g) (hne : stepM q K g ≠ g) : i + 2 ≤ pc (stepM q K g) ∧ i + 2 ≤ q.2.length := by
  have hK16 := Nat.lt_of_lt_of_le hK (pow_le16 hq)
  have hn := Nat.lt_of_lt_of_le (near_lt q g) (pow_le16 hq)
  have h1 := pc_lt g hg (near q g &&& K) (Nat.lt_of_le_of_lt Nat.and_le_left hn) hne
  have h2 := pc_le _ (stepM_lt hq hg) K hK16 (stepM_sub hq hg hK16 hs)
  have h3 := pc_len q.2.length (by omega) K hK16 hK
  unfold stepM at *
  omega
/-- IsConnected of what is valid. -/
def conn (q : DQ) (K : Nat) : Bool := decide (K ≠ 0) && joined q K
/-- The masks up to some that hang together. -/
def connTo (q : DQ) : Nat → List Int
  | 0 => []
  | m + 1 => connTo q m ++ (if joined q (m + 1) then [((m + 1 : Nat) : Int)] else [])
theorem connTo_len (q : DQ) : ∀ m, (connTo q m).length ≤ m
  | 0 => by simp [connTo]
  | m + 1 => by have := connTo_len q m; simp only [connTo, List.length_append]; split <;> simp <;> omega
theorem connTo_yes {q : DQ} {m : Nat} (h : joined q (m + 1) = true) : connTo q (m + 1) = connTo q m ++ [((m + 1 : Nat) : Int)] := by rw [connTo, h]; rfl
theorem connTo_no {q : DQ} {m : Nat} (h : joined q (m + 1) = false) : connTo q (m + 1) = connTo q m := by rw [connTo, h]; simp
/-- ConnectedMasks. -/
def connMasks (q : DQ) : List Int := connTo q (fullMask q).toNat
end Go.Proofs.Ythhbmbkecaffeaa
