/- Texts joined for one claim: GraphL. -/
import Derived.Test.YtehcjdbljdpmbaaQddfcb0ca74

/- Plain law: splits, neighbors and connected masks. -/
namespace Go.Proofs.Ytehcjdbljdpmbaa
open Go.RowKit
set_option linter.unusedVariables false
set_option linter.unusedSimpArgs false

theorem bits_eq {q : DQ} (h4 : q.2.length ≤ 4) (K : Nat) : bitsOf q K = (((0 ||| (if bitAt K 0 = true then vAt q 0 else 0)) ||| (if bitAt K 1 = true then vAt q 1 else 0)) ||| (if bitAt K 2 = true then vAt q 2 else 0)) ||| (if bitAt K 3 = true then vAt q 3 else 0) := by
  obtain ⟨n, xs⟩ := q
  rcases xs with _ | ⟨a, _ | ⟨b, _ | ⟨c, _ | ⟨d, _ | ⟨f, t⟩⟩⟩⟩⟩
  · simp [bitsOf, qbits, vAt]
  · simp [bitsOf, qbits_or, qbits_nil, vAt]
  · simp [bitsOf, qbits_or, qbits_nil, vAt]
  · simp [bitsOf, qbits_or, qbits_nil, vAt]
  · simp [bitsOf, qbits_or, qbits_nil, vAt]
  · simp at h4
def crossE (a b c d e f : Bool) (x y : Nat) : Bool :=
  (bitAt x 0 && (bitAt y 1 && a)) || (bitAt x 0 && (bitAt y 2 && b)) || (bitAt x 0 && (bitAt y 3 && c)) || (bitAt x 1 && (bitAt y 2 && d)) || (bitAt x 1 && (bitAt y 3 && e)) || (bitAt x 2 && (bitAt y 3 && f)) || (bitAt x 1 && (bitAt y 0 && a)) || (bitAt x 2 && (bitAt y 0 && b)) || (bitAt x 3 && (bitAt y 0 && c)) || (bitAt x 2 && (bitAt y 1 && d)) || (bitAt x 3 && (bitAt y 1 && e)) || (bitAt x 3 && (bitAt y 2 && f))
def chk4 : Bool := allB fun a => allB fun b => allB fun c => allB fun d => allB fun e => allB fun f => allN 5 fun n => allN 16 fun K => !(Nat.blt K (2 ^ n)) || !(joinE a b c d e f n K) || allN 16 fun x => !((x &&& K) == x) || x == 0 || x == K || crossE a b c d e f x (K - x)
theorem chk4_ok : chk4 = true := by decide +kernel
theorem meet_sel {q : DQ} (h4 : q.2.length ≤ 4) {i j : Nat} (hi : i < 4) (hj : j < 4) {x y : Nat} (hx : bitAt x i = true) (hy : bitAt y j = true) (he : edge q i j = true) : meet (bitsOf q x) (bitsOf q y) = true := by
  have sub : ∀ (K k : Nat), k < 4 → bitAt K k = true → ∀ z, meet z (vAt q k) = true → meet z (bitsOf q K) = true := by
    intro K k hk hb z hz
    rw [bits_eq h4]
    simp only [meet_or, meet_if, meet_zero, Bool.or_eq_true, Bool.and_eq_true]
    rcases (by omega : k = 0 ∨ k = 1 ∨ k = 2 ∨ k = 3) with rfl | rfl | rfl | rfl <;> simp [hb, hz]
  refine sub y j hj hy _ ?_
  rw [meet_comm]
  refine sub x i hi hx _ ?_
  rw [meet_comm]
  exact he
theorem edge_comm (q : DQ) (i j : Nat) : edge q i j = edge q j i := meet_comm _ _
theorem cross_meet {q : DQ} (h4 : q.2.length ≤ 4) {x y : Nat} (h : crossE (edge q 0 1) (edge q 0 2) (edge q 0 3) (edge q 1 2) (edge q 1 3) (edge q 2 3) x y = true) : meet (bitsOf q x) (bitsOf q y) = true := by
  simp only [crossE, Bool.or_eq_true, Bool.and_eq_true] at h
  rcases h with ((((((((((h | h) | h) | h) | h) | h) | h) | h) | h) | h) | h) | h
  · exact meet_sel h4 (i := 0) (j := 1) (by omega) (by omega) h.1 h.2.1 h.2.2
  · exact meet_sel h4 (i := 0) (j := 2) (by omega) (by omega) h.1 h.2.1 h.2.2
  · exact meet_sel h4 (i := 0) (j := 3) (by omega) (by omega) h.1 h.2.1 h.2.2
  · exact meet_sel h4 (i := 1) (j := 2) (by omega) (by omega) h.1 h.2.1 h.2.2
  · exact meet_sel h4 (i := 1) (j := 3) (by omega) (by omega) h.1 h.2.1 h.2.2
  · exact meet_sel h4 (i := 2) (j := 3) (by omega) (by omega) h.1 h.2.1 h.2.2
  · exact meet_sel h4 (i := 1) (j := 0) (by omega) (by omega) h.1 h.2.1 ((edge_comm q 1 0).trans h.2.2)
  · exact meet_sel h4 (i := 2) (j := 0) (by omega) (by omega) h.1 h.2.1 ((edge_comm q 2 0).trans h.2.2)
  · exact meet_sel h4 (i := 3) (j := 0) (by omega) (by omega) h.1 h.2.1 ((edge_comm q 3 0).trans h.2.2)
  · exact meet_sel h4 (i := 2) (j := 1) (by omega) (by omega) h.1 h.2.1 ((edge_comm q 2 1).trans h.2.2)
  · exact meet_sel h4 (i := 3) (j := 1) (by omega) (by omega) h.1 h.2.1 ((edge_comm q 3 1).trans h.2.2)
  · exact meet_sel h4 (i := 3) (j := 2) (by omega) (by omega) h.1 h.2.1 ((edge_comm q 3 2).trans h.2.2)
theorem blt_yes {a b : Nat} (h : a < b) : Nat.blt a b = true := by simp [Nat.blt_eq, h]
theorem blt_lt {a b : Nat} (h : Nat.blt a b = true) : a < b := by simpa [Nat.blt_eq] using h
/-- A joined mask's parts meet. -/
theorem part_meet {q : DQ} {n : Nat} (hq : QOk q n) {K x : Nat} (hK : K < 2 ^ q.2.length) (hj : joined q K = true) (h1 : x &&& K = x) (h2 : x ≠ 0) (h3 : x ≠ K) (hx : x < K) : meet (bitsOf q x) (bitsOf q (K - x)) = true := by
  have hK16 := Nat.lt_of_lt_of_le hK (pow_le16 hq.len)
  refine cross_meet hq.len ?_
  rw [join_eq hq.lpos hq.len] at hj
  have c := chk4_ok
  have c := allB_of c (edge q 0 1)
  have c := allB_of c (edge q 0 2)
  have c := allB_of c (edge q 0 3)
  have c := allB_of c (edge q 1 2)
  have c := allB_of c (edge q 1 3)
  have c := allB_of c (edge q 2 3)
  have c := allN_of c q.2.length (by have := hq.len; omega)
  have c := allN_of c K hK16
  have e1 : Nat.blt K (2 ^ q.2.length) = true := blt_yes hK
  simp only [e1, hj, Bool.not_true, Bool.false_or] at c
  have c := allN_of c x (by omega)
  have e2 : ((x &&& K) == x) = true := by simp [h1]
  have e3 : (x == 0) = false := by simp [h2]
  have e4 : (x == K) = false := by simp [h3]
  simp only [e2, e3, e4, Bool.not_true, Bool.false_or] at c
  exact c
theorem meet_vars {q : DQ} {n : Nat} (hq : QOk q n) {x y : Nat} (h : meet (bitsOf q x) (bitsOf q y) = true) : (both (varsOf q x) (varsOf q y)).length ≠ 0 := by
  simp only [meet, decide_eq_true_eq] at h
  obtain ⟨v, hv⟩ := Nat.exists_testBit_of_ne_zero h
  rw [Nat.testBit_and, Bool.and_eq_true] at hv
  have hb := hq.bits_lt x
  have hv4 : v < 4 := by
    rcases Nat.lt_or_ge v 4 with h9 | h9
    · exact h9
    · have h8 := Nat.lt_of_lt_of_le hb (pow_le16 hq.le)
      rw [Nat.testBit_lt_two_pow (Nat.lt_of_lt_of_le h8 (show 2 ^ 4 ≤ 2 ^ v from Nat.pow_le_pow_right (by omega) h9))] at hv
      simp at hv
  have m1 : (v : Int) ∈ varsOf q x := by have := varsOf_has q (K := x) hv4; rw [hv.1] at this; simpa [has] using this
  have m2 : has (varsOf q y) (v : Int) = true := by rw [varsOf_has q hv4, hv.2]
  have := List.length_pos_of_mem (a := (v : Int)) (l := both (varsOf q x) (varsOf q y)) (by simp only [both, List.mem_filter]; exact ⟨m1, m2⟩)
  omega
theorem isConn_open {q : DQ} {k : Int} (h : isConn q k = true) : ∃ K : Nat, k = K ∧ K < 2 ^ q.2.length ∧ K ≠ 0 ∧ K < 16 ∧ validQ q = true ∧ joined q K = true := by
  simp only [isConn, Bool.and_eq_true] at h
  obtain ⟨K, rfl, hK⟩ := maskOkB_lt h.1
  have hv := maskOkB_valid h.1
  obtain ⟨n, hq⟩ := QOk.of hv
  have h2 := h.2
  simp only [conn, Int.toNat_natCast, Bool.and_eq_true, decide_eq_true_eq] at h2
  exact ⟨K, rfl, hK, h2.1, Nat.lt_of_lt_of_le hK (pow_le16 hq.len), hv, h2.2⟩
theorem maskOk_mk {q : DQ} {K : Nat} (hv : validQ q = true) (hK : K < 2 ^ q.2.length) : maskOkB q (K : Int) = true := by
  simp only [maskOkB, hv, betw, Bool.true_and, Bool.and_eq_true, decide_eq_true_eq]; omega
theorem isConn_mk {q : DQ} {K : Nat} (hv : validQ q = true) (hK : K < 2 ^ q.2.length) (h0 : K ≠ 0) (hj : joined q K = true) : isConn q (K : Int) = true := by
  rw [isConn_yes (maskOk_mk hv hK)]; simp [conn, h0, hj]
theorem and_rest' : ∀ K, K < 16 → ∀ x, x < 16 → (!decide (x &&& K = x) || decide ((K - x) &&& K = K - x)) = true := by decide +kernel
/-- What a split is. -/
theorem split_law {q : DQ} {k x : Int} (h : x ∈ joinSplits q k) : ∃ K y : Nat, k = K ∧ x = y ∧ 1 ≤ y ∧ y < K ∧ K < 16 ∧ isConn q x = true ∧ (k - x) ∈ joinSplits q k ∧ (sharedVars q x (k - x)).length ≠ 0 := by
  by_cases hc : isConn q k = true
  · obtain ⟨K, rfl, hK, h0, h16, hv, hj⟩ := isConn_open hc
    obtain ⟨n, hq⟩ := QOk.of hv
    rw [joinSplits_yes hc] at h ⊢
    obtain ⟨y, rfl, h1, h2, h3⟩ := splitsTo_mem h
    have h3' := h3
    simp only [splitB, Bool.and_eq_true, decide_eq_true_eq] at h3
    obtain ⟨s1, s2, s3⟩ := h3
    have hr := and_rest' K h16 y (by omega)
    simp only [s1, decide_true, Bool.not_true, Bool.false_or, decide_eq_true_eq] at hr
    have e : (K : Int) - (y : Int) = ((K - y : Nat) : Int) := by omega
    rw [e]
    refine ⟨K, y, rfl, rfl, h1, by omega, h16, isConn_mk hv (by omega) (by omega) s2, splitsTo_has (by omega) (by omega) ?_, ?_⟩
    · simp only [splitB, Bool.and_eq_true, decide_eq_true_eq]
      exact ⟨hr, s3, by rw [show K - (K - y) = y by omega]; exact s2⟩
    · rw [sharedVars, maskVars_yes (maskOk_mk hv (by omega)), maskVars_yes (maskOk_mk hv (by omega))]
      exact meet_vars hq (part_meet hq hK hj s1 (by omega) (by omega) (by omega))
  · rw [joinSplits_no (by simpa using hc)] at h
    simp at h
/-- A neighbor goes on. -/
theorem near_law {q : DQ} {k a : Int} (hc : isConn q k = true) (h : a ∈ maskAtoms (nearMask q k)) : ∃ K v : Nat, k = K ∧ a = v ∧ K < 16 ∧ v < 4 ∧ isConn q ((K ||| 2 ^ v : Nat) : Int) = true := by
  obtain ⟨K, rfl, hK, h0, h16, hv, hj⟩ := isConn_open hc
  obtain ⟨n, hq⟩ := QOk.of hv
  rw [nearMask_yes (maskOk_mk hv hK)] at h
  have hl := near_lt q K
  have hl16 := Nat.lt_of_lt_of_le hl (pow_le16 hq.len)
  rw [maskAtoms, if_pos (by simp only [betw, Bool.and_eq_true, decide_eq_true_eq]; omega), Int.toNat_natCast] at h
  have key : ∀ m, a ∈ bitsTo (near q K) m → ∃ v : Nat, a = v ∧ v < m ∧ (near q K).testBit v = true := by
    intro m
    induction m with
    | zero => intro h; simp [bitsTo] at h
    | succ m ih =>
      intro h
      simp only [bitsTo, List.mem_append] at h
      rcases h with h | h
      · obtain ⟨v, h1, h2, h3⟩ := ih h; exact ⟨v, h1, by omega, h3⟩
      · split at h
        · rename_i hb; simp only [List.mem_singleton] at h; exact ⟨m, h, by omega, by rw [← bitAt_testBit]; exact hb⟩
        · simp at h
  obtain ⟨v, rfl, hv4, ht⟩ := key 4 h
  have hvl : v < q.2.length := by
    rcases Nat.lt_or_ge v q.2.length with h9 | h9
    · exact h9
    · rw [Nat.testBit_lt_two_pow (Nat.lt_of_lt_of_le hl (Nat.pow_le_pow_right (by omega) h9))] at ht; simp at ht
  refine ⟨K, v, rfl, rfl, h16, hv4, isConn_mk hv (or_lt hK hvl) (fun e => h0 (Nat.or_eq_zero_iff.1 e).1) ?_⟩
  rw [join_eq hq.lpos hq.len] at hj ⊢
  rw [near_eq hq.lpos hq.len, ← bitAt_testBit] at ht
  have c := chk2_ok
  have c := allB_of c (edge q 0 1)
  have c := allB_of c (edge q 0 2)
  have c := allB_of c (edge q 0 3)
  have c := allB_of c (edge q 1 2)
  have c := allB_of c (edge q 1 3)
  have c := allB_of c (edge q 2 3)
  have c := allN_of c q.2.length (by have := hq.len; omega)
  have c := allN_of c K h16
  have e1 : Nat.blt K (2 ^ q.2.length) = true := blt_yes hK
  have e3 : (K == 0) = false := by simp [h0]
  simp only [e1, e3, hj, Bool.not_true, Bool.false_or] at c
  have c := allN_of c v hvl
  simp only [ht, Bool.not_true, Bool.false_or] at c
  exact c
/-- A connected mask of more than one atom has a split. -/
theorem some_split {q : DQ} {k : Int} (hc : isConn q k = true) : ∃ K : Nat, k = K ∧ 0 < K ∧ K < 16 ∧ (K &&& (K - 1) = 0 ∨ 0 < (joinSplits q k).length) := by
  obtain ⟨K, rfl, hK, h0, h16, hv, hj⟩ := isConn_open hc
  obtain ⟨n, hq⟩ := QOk.of hv
  refine ⟨K, rfl, by omega, h16, ?_⟩
  by_cases hs : K &&& (K - 1) = 0
  · exact .inl hs
  right
  rw [joinSplits_yes hc]
  have hj' := hj
  rw [join_eq hq.lpos hq.len] at hj
  have c := chk3_ok
  have c := allB_of c (edge q 0 1)
  have c := allB_of c (edge q 0 2)
  have c := allB_of c (edge q 0 3)
  have c := allB_of c (edge q 1 2)
  have c := allB_of c (edge q 1 3)
  have c := allB_of c (edge q 2 3)
  have c := allN_of c q.2.length (by have := hq.len; omega)
  have c := allN_of c K h16
  have e1 : Nat.blt K (2 ^ q.2.length) = true := blt_yes hK
  have e3 : ((K &&& (K - 1)) == 0) = false := by simp [hs]
  simp only [e1, e3, hj, Bool.not_true, Bool.false_or, List.any_eq_true, List.mem_range, Bool.and_eq_true, Bool.not_eq_true', beq_eq_false_iff_ne, beq_iff_eq] at c
  obtain ⟨x, hx, ⟨⟨⟨⟨c1, c2⟩, c3⟩, c4⟩, c5⟩⟩ := c
  have c2 : x < K := blt_lt c2
  refine List.length_pos_of_mem (a := (x : Int)) (splitsTo_has (by omega) (by omega) ?_)
  simp only [splitB, Bool.and_eq_true, decide_eq_true_eq]
  exact ⟨c3, by rw [join_eq hq.lpos hq.len]; exact c4, by rw [join_eq hq.lpos hq.len]; exact c5⟩
theorem connTo_iff {q : DQ} : ∀ {m : Nat} {x : Int}, x ∈ connTo q m ↔ ∃ y : Nat, x = y ∧ 1 ≤ y ∧ y ≤ m ∧ joined q y = true
  | 0, x => by
    simp only [connTo, List.not_mem_nil, false_iff]
    rintro ⟨y, _, h1, h2, _⟩; omega
  | m + 1, x => by
    simp only [connTo, List.mem_append]
    rw [connTo_iff]
    constructor
    · rintro (⟨y, h1, h2, h3, h4⟩ | h)
      · exact ⟨y, h1, h2, by omega, h4⟩
      · split at h
        · rename_i hb; simp only [List.mem_singleton] at h; exact ⟨m + 1, h, by omega, Nat.le_refl _, hb⟩
        · simp at h
    · rintro ⟨y, h1, h2, h3, h4⟩
      rcases Nat.lt_or_ge m y with h | h
      · obtain rfl : y = m + 1 := by omega
        right; rw [h4]; simp [h1]
      · exact .inl ⟨y, h1, h2, h, h4⟩
/-- The connected masks are those. -/
theorem has_conn (q : DQ) (k : Int) : has (connMasks q) k = isConn q k := by
  rw [Bool.eq_iff_iff, has, decide_eq_true_eq, connMasks]
  constructor
  · intro h
    obtain ⟨y, rfl, h1, h2, h3⟩ := connTo_iff.1 h
    by_cases hv : validQ q = true
    · rw [fullMask_yes hv, Int.toNat_natCast] at h2
      have := Nat.two_pow_pos q.2.length
      exact isConn_mk hv (by omega) (by omega) h3
    · rw [fullMask_no (by simpa using hv)] at h2; simp at h2; omega
  · intro h
    obtain ⟨K, rfl, hK, h0, h16, hv, hj⟩ := isConn_open h
    exact connTo_iff.2 ⟨K, rfl, by omega, by rw [fullMask_yes hv, Int.toNat_natCast]; omega, hj⟩

end Go.Proofs.Ytehcjdbljdpmbaa
