/- Texts joined for one claim: OA, OAs, OQ, MaskP, FmtQ, LFormatQuery. -/
import Derived.Test.YtigcagplbihenaaQa31ee82590
import Derived.Deep.RegionHeld3

/- Arguments of kind A opened. Written by a program. -/
namespace Go.Proofs.Ytigcagplbihenaa
open Go.ChangeShapes Go.WideShapes Go.ChangeAt Go.RowKit
set_option linter.unusedVariables false
set_option maxRecDepth 100000

theorem opens_A : Opens 61 rA := opens_struct2 Try.underlying61 (by kernel_rfl) rfl rfl (by kernel_rfl) (by kernel_rfl) opens_str' opens_I
abbrev kA_in := agg_in rA
theorem open_kA_in {H : Type} {enc : TypeId × Value → H} {W : World} {d : DataW H} {ps : List MemPlace} {v : Value} (hv : Value.okWide Try.prog W .any 0 61 v) (h : DataW.Trod enc Try.prog W 0 (fun _ => true) true 61 v d ps) : kA_in W v :=
  open_agg_in Try.underlying61 opens_A hv h

end Go.Proofs.Ytigcagplbihenaa

/- Arguments of kind As opened. Written by a program. -/
namespace Go.Proofs.Ytigcagplbihenaa
open Go.ChangeShapes Go.WideShapes Go.ChangeAt Go.RowKit
set_option linter.unusedVariables false
set_option maxRecDepth 100000

theorem opens_As : Opens 22 rAs := opens_slice Try.underlying22 (by kernel_rfl) (by decide) opens_A
def kAs_in (w : World) (v : Value) : Prop := ∃ u xs, v = u ∧ rAs.rep w [u] xs
theorem open_kAs_in {H : Type} {enc : TypeId × Value → H} {W : World} {d : DataW H} {ps : List MemPlace} {v : Value} (hv : Value.okWide Try.prog W .any 0 22 v) (h : DataW.Trod enc Try.prog W 0 (fun _ => true) true 22 v d ps) : kAs_in W v := by
  obtain ⟨a, l, c, rfl⟩ := okWide_slice Try.underlying22 hv
  obtain ⟨fuel, hf⟩ := h
  obtain ⟨xs, hx⟩ := opens_As H enc W fuel _ _ hf
  exact ⟨_, xs, rfl, by simpa [Value.cells] using hx⟩

end Go.Proofs.Ytigcagplbihenaa

/- Arguments of kind Q opened. Written by a program. -/
namespace Go.Proofs.Ytigcagplbihenaa
open Go.ChangeShapes Go.WideShapes Go.ChangeAt Go.RowKit
set_option linter.unusedVariables false
set_option maxRecDepth 100000

theorem opens_Q : Opens 24 rQ := opens_struct2 Try.underlying24 (by kernel_rfl) rfl rfl (by kernel_rfl) (by kernel_rfl) opens_int opens_As
abbrev kQ_in := agg_in rQ
theorem open_kQ_in {H : Type} {enc : TypeId × Value → H} {W : World} {d : DataW H} {ps : List MemPlace} {v : Value} (hv : Value.okWide Try.prog W .any 0 24 v) (h : DataW.Trod enc Try.prog W 0 (fun _ => true) true 24 v d ps) : kQ_in W v :=
  open_agg_in Try.underlying24 opens_Q hv h

end Go.Proofs.Ytigcagplbihenaa

/- Plain facts: masks of atoms, and the variables of what they hold. -/
namespace Go.Proofs.Ytigcagplbihenaa
open Go.RowKit
set_option linter.unusedVariables false
set_option linter.unusedSimpArgs false

/-- What a valid query is known to hold. -/
structure QOk (q : DQ) (n : Nat) : Prop where
  cnt : q.1 = n
  pos : 1 ≤ n
  le : n ≤ 4
  lpos : 1 ≤ q.2.length
  len : q.2.length ≤ 4
  name : ∀ a ∈ q.2, nameB a.1 = true
  vpos : ∀ a ∈ q.2, 1 ≤ a.2.length
  vlen : ∀ a ∈ q.2, a.2.length ≤ 3
  vars : ∀ a ∈ q.2, ∀ v ∈ a.2, 0 ≤ v ∧ v < n
theorem varsFrom_mem {n : Int} : ∀ {vs pre : List Int}, varsFrom n pre vs = true → ∀ v ∈ vs, 0 ≤ v ∧ v < n
  | [], _, _, v, hv => by cases hv
  | x :: t, pre, h, v, hv => by
    simp only [varsFrom, Bool.and_eq_true, betw, decide_eq_true_eq] at h
    rcases List.mem_cons.1 hv with rfl | hv
    · omega
    · exact varsFrom_mem h.2 v hv
theorem validFrom_atoms {n : Nat} : ∀ {xs : List DA} {m : Nat}, validFrom n m xs = true → ∀ a ∈ xs, nameB a.1 = true ∧ 1 ≤ a.2.length ∧ a.2.length ≤ 3 ∧ ∀ v ∈ a.2, 0 ≤ v ∧ v < (n : Int)
  | [], _, _, a, ha => by cases ha
  | x :: t, m, h, a, ha => by
    simp only [validFrom, Bool.and_eq_true, betw, decide_eq_true_eq] at h
    rcases List.mem_cons.1 ha with rfl | ha
    · exact ⟨h.1.1, by omega, by omega, varsFrom_mem h.2.1⟩
    · exact validFrom_atoms h.2.2 a ha
theorem QOk.of {q : DQ} (h : validQ q = true) : ∃ n, QOk q n := by
  simp only [validQ, Bool.and_eq_true, betw, decide_eq_true_eq] at h
  have hf := validFrom_atoms h.2
  refine ⟨q.1.toNat, by omega, by omega, by omega, by omega, by omega, fun a ha => (hf a ha).1, fun a ha => (hf a ha).2.1, fun a ha => (hf a ha).2.2.1, fun a ha => (hf a ha).2.2.2⟩

/-- The variables, as bits, of the atoms of a mask; i: the first atom's number. -/
def qbits (K m : Nat) : Nat → List DA → Nat
  | _, [] => m
  | i, a :: t => qbits K (if bitAt K i then vbits m a.2 else m) (i + 1) t
/-- The variables of a mask. -/
def bitsOf (q : DQ) (K : Nat) : Nat := qbits K 0 0 q.2

theorem qbits_at {K m j : Nat} {xs : List DA} {a : DA} (h : xs[j]? = some a) : qbits K m j (xs.drop j) = qbits K (if bitAt K j then vbits m (a.2.drop 0) else m) (j + 1) (xs.drop (j + 1)) := by
  obtain ⟨h1, rfl⟩ := List.getElem?_eq_some_iff.1 h
  rw [List.drop_eq_getElem_cons h1]; simp [qbits]
theorem qbits_end {K m j : Nat} {xs : List DA} (h : xs.length ≤ j) : qbits K m j (xs.drop j) = m := by
  rw [List.drop_eq_nil_of_le h]; rfl

theorem vbits_or : ∀ (vs : List Int) (m : Nat), vbits m vs = m ||| vbits 0 vs
  | [], m => by simp [vbits]
  | v :: t, m => by
    rw [vbits, vbits, vbits_or t (m ||| 2 ^ v.toNat), vbits_or t (0 ||| 2 ^ v.toNat), Nat.zero_or, Nat.or_assoc]
theorem vbits_lt {n : Nat} : ∀ {vs : List Int} {m : Nat}, (∀ v ∈ vs, 0 ≤ v ∧ v < (n : Int)) → m < 2 ^ n → vbits m vs < 2 ^ n
  | [], m, _, hm => hm
  | v :: t, m, h, hm => by
    have h1 := h v (by simp)
    have h2 : v.toNat < n := by omega
    show vbits (m ||| 2 ^ v.toNat) t < 2 ^ n
    exact @vbits_lt n t (m ||| 2 ^ v.toNat) (fun x hx => h x (by simp [hx])) (or_lt hm h2)
theorem vbits_test {j : Nat} : ∀ {vs : List Int} {m : Nat}, (∀ v ∈ vs, 0 ≤ v) → ((vbits m vs).testBit j = (m.testBit j || has vs (j : Int)))
  | [], m, _ => by simp [vbits, has]
  | v :: t, m, h => by
    have hv := h v (by simp)
    rw [vbits, vbits_test (fun x hx => h x (by simp [hx])), Nat.testBit_or, Bool.or_assoc]
    congr 1
    obtain ⟨k, rfl⟩ := Int.eq_ofNat_of_zero_le hv
    by_cases e : k = j
    · subst e
      simp [Nat.testBit_two_pow_self, has]
    · have e' : ¬ (j : Int) = (k : Int) := by omega
      simp [Nat.testBit_two_pow_of_ne e, has, e']
theorem qbits_lt {K n : Nat} : ∀ {xs : List DA} {m i : Nat}, (∀ a ∈ xs, ∀ v ∈ a.2, 0 ≤ v ∧ v < (n : Int)) → m < 2 ^ n → qbits K m i xs < 2 ^ n
  | [], m, i, _, hm => hm
  | a :: t, m, i, h, hm => by
    rw [qbits]
    refine qbits_lt (fun b hb => h b (by simp [hb])) ?_
    split
    · exact vbits_lt (h a (by simp)) hm
    · exact hm
theorem QOk.bits_lt {q : DQ} {n : Nat} (h : QOk q n) (K : Nat) : bitsOf q K < 2 ^ n := qbits_lt h.vars (Nat.two_pow_pos _)
/-- Whether some atom of a mask, from atom i on, holds variable v. -/
def someFrom (K v : Nat) : Nat → List DA → Bool
  | _, [] => false
  | i, a :: t => (bitAt K i && has a.2 (v : Int)) || someFrom K v (i + 1) t
theorem someFrom_at {K v j : Nat} {xs : List DA} {a : DA} (h : xs[j]? = some a) : someFrom K v j (xs.drop j) = ((bitAt K j && has a.2 (v : Int)) || someFrom K v (j + 1) (xs.drop (j + 1))) := by
  obtain ⟨h1, rfl⟩ := List.getElem?_eq_some_iff.1 h
  rw [List.drop_eq_getElem_cons h1]; rfl
theorem someFrom_end {K v j : Nat} {xs : List DA} (h : xs.length ≤ j) : someFrom K v j (xs.drop j) = false := by
  rw [List.drop_eq_nil_of_le h]; rfl
theorem qbits_some {K v : Nat} : ∀ {xs : List DA} {m i : Nat}, (∀ a ∈ xs, ∀ v ∈ a.2, 0 ≤ v) → ((qbits K m i xs).testBit v = (m.testBit v || someFrom K v i xs))
  | [], m, i, _ => by simp [qbits, someFrom]
  | a :: t, m, i, h => by
    rw [qbits, qbits_some (fun b hb => h b (by simp [hb])), someFrom]
    split
    · rename_i hb; rw [vbits_test (h a (by simp)), hb]; simp [Bool.or_assoc]
    · rename_i hb; simp [hb]
theorem QOk.some {q : DQ} {n : Nat} (h : QOk q n) (K v : Nat) : bitAt (bitsOf q K) v = someFrom K v 0 (q.2.drop 0) := by
  rw [bitAt_testBit, bitsOf, qbits_some (fun a ha x hx => (h.vars a ha x hx).1)]; simp
/-- The variables of a mask. -/
def varsOf (q : DQ) (K : Nat) : List Int := bitsTo (bitsOf q K) 4
theorem bitsTo_more {x n : Nat} (h : x < 2 ^ n) : ∀ k, bitsTo x (n + k) = bitsTo x n
  | 0 => rfl
  | k + 1 => by
    rw [show n + (k + 1) = n + k + 1 by omega, bitsTo_no, bitsTo_more h k]
    rw [bitAt_testBit]
    exact Nat.testBit_lt_two_pow (Nat.lt_of_lt_of_le h (Nat.pow_le_pow_right (by omega) (by omega)))
theorem QOk.varsOf {q : DQ} {n : Nat} (h : QOk q n) (K : Nat) : varsOf q K = bitsTo (bitsOf q K) n := by
  have := bitsTo_more (h.bits_lt K) (4 - n)
  rw [show n + (4 - n) = 4 by have := h.le; omega] at this
  exact this
theorem bitsTo_has {x : Nat} : ∀ {m v : Nat}, has (bitsTo x m) (v : Int) = (decide (v < m) && x.testBit v)
  | 0, v => by simp [bitsTo, has]
  | m + 1, v => by
    have ih := @bitsTo_has x m v
    simp only [has] at ih ⊢
    rw [Bool.eq_iff_iff] at ih ⊢
    simp only [decide_eq_true_eq, Bool.and_eq_true] at ih ⊢
    simp only [bitsTo, List.mem_append]
    rw [bitAt_testBit]
    constructor
    · rintro (h | h)
      · have := ih.1 h; exact ⟨by omega, this.2⟩
      · split at h
        · rename_i hb; simp only [List.mem_singleton] at h; obtain rfl : v = m := by omega
          exact ⟨by omega, hb⟩
        · simp at h
    · rintro ⟨h1, h2⟩
      rcases Nat.lt_or_ge v m with h3 | h3
      · exact .inl (ih.2 ⟨h3, h2⟩)
      · obtain rfl : v = m := by omega
        right; simp [h2]
theorem varsOf_has (q : DQ) {K v : Nat} (hv : v < 4) : has (varsOf q K) (v : Int) = (bitsOf q K).testBit v := by
  rw [Go.Proofs.Ytigcagplbihenaa.varsOf, bitsTo_has]; simp [hv]

/-- The full mask of a query. -/
def fullMask (q : DQ) : Int := if validQ q then ((2 ^ q.2.length - 1 : Nat) : Int) else 0
/-- Whether a query is valid and a mask one of its atoms. -/
def maskOkB (q : DQ) (k : Int) : Bool := validQ q && betw k 0 ((2 ^ q.2.length - 1 : Nat) : Int)
/-- MaskVariables. -/
def maskVars (q : DQ) (k : Int) : List Int := if maskOkB q k then varsOf q k.toNat else []
theorem maskVars_no {q : DQ} {k : Int} (h : maskOkB q k = false) : maskVars q k = [] := by simp [maskVars, h]
theorem maskVars_yes {q : DQ} {K : Nat} (h : maskOkB q (K : Int) = true) : maskVars q (K : Int) = varsOf q K := by simp [maskVars, h]
theorem maskOkB_lt {q : DQ} {k : Int} (h : maskOkB q k = true) : ∃ K : Nat, k = K ∧ K < 2 ^ q.2.length := by
  simp only [maskOkB, Bool.and_eq_true, betw, decide_eq_true_eq] at h
  have := Nat.two_pow_pos q.2.length
  exact ⟨k.toNat, by omega, by omega⟩
theorem maskOkB_valid {q : DQ} {k : Int} (h : maskOkB q k = true) : validQ q = true := by
  simp only [maskOkB, Bool.and_eq_true] at h; exact h.1
theorem varsOf_len (q : DQ) (K : Nat) : (varsOf q K).length ≤ 4 := bitsTo_len _ _
theorem maskVars_len (q : DQ) (k : Int) : (maskVars q k).length ≤ 4 := by
  unfold maskVars; split
  · exact varsOf_len _ _
  · simp
/-- What of one list is among another. -/
def both (xs ys : List Int) : List Int := xs.filter (has ys)
theorem both_yes {xs ys : List Int} {j : Nat} {x : Int} (hj : j < xs.length) (hx : xs.getD j 0 = x) (h : has ys x = true) : both (xs.take (j + 1)) ys = both (xs.take j) ys ++ [x] := by
  rw [take_snoc xs j hj, hx, both, List.filter_append, both]; simp [h]
theorem both_no {xs ys : List Int} {j : Nat} {x : Int} (hj : j < xs.length) (hx : xs.getD j 0 = x) (h : has ys x = false) : both (xs.take (j + 1)) ys = both (xs.take j) ys := by
  rw [take_snoc xs j hj, hx, both, List.filter_append, both]; simp [h]
theorem both_len (xs ys : List Int) : (both xs ys).length ≤ xs.length := List.length_filter_le _ _
theorem both_end {xs ys : List Int} {j : Nat} (h : xs.length ≤ j) : both (xs.take j) ys = both xs ys := by rw [List.take_of_length_le h]
end Go.Proofs.Ytigcagplbihenaa

/- Contracts: texts of queries, both ways. -/
namespace Go.Proofs.Ytigcagplbihenaa
open Go.RowKit
set_option linter.unusedVariables false
set_option linter.unusedSimpArgs false
set_option synthInstance.maxSize 2000
set_option synthInstance.maxHeartbeats 400000

theorem step_app2 {ops : Array Oper} {o : Oper} {a : Act} {K : Act → World → Prop} {Q : Exit → Act → World → Prop} {E : Prop} {w w' : World} {s x : Operand} {t t' : TypeId} {vs vx v' : Value}
    {ty : TypeId} (hrun : (Builtin.append_ #[t, t'] ty #[vs, vx]).run Try.prog w = .ok v' w') (hty : o.type = ty) (hgd : o.guard = none)
    (ho : o.op = .call { callee := .builtin .append, args := #[s, x], argTypes := #[t, t'] }) (hs : a.eval s = vs) (hx : a.eval x = vx)
    (h : K (a.put o.dst v') w') :
    if Region.wanted o (yielded ops a.tmps) = true then Oper.wp Try.prog o a w K Q else E := by
  have hw : Region.wanted o (yielded ops a.tmps) = true := by simp [Region.wanted, hgd]
  rw [if_pos hw]
  unfold Oper.wp execOp
  simp only [ho, resolve, invoke, builtin, Sem.run_bind, Sem.run_pure, Result.andThen_ok, List.map_toArray, List.map_cons, List.map_nil, hs, hx, hty, hrun]
  exact h
/-- append of one element in a loop, with what stays. -/
theorem run_accF {α : Type} {T E size bytes : Nat} {z : Value} (hT : Try.prog.underlying T = some (.slice E)) (hE : (Try.prog.info? E).map (fun i => (i.zero, i.size, i.bytes)) = some (some z, size, bytes)) (hz : z.cells.size = size) (hpos : 0 < size) (hby : bytes ≤ 1000)
    {o' : OS α} (hsz : o'.size = size) {lo S hi9 h1 h2 : Nat} {W0 W W1 : World} (ty : TypeId) (v : Value) (xs : List α) (c : List Value) (y : α)
    (hown : Acc E o' lo S hi9 W v xs) (hy : Own o' h1 h2 W c y) (hone : ∀ u ∈ c, u.oneCell' = true) (hhi : hi9 ≤ h1) (hS1 : S ≤ h1) (hlo : lo < S) (ht : Turn lo (lo + 1) W0 W) (hS : W0.heap.size = S) (hn : xs.length ≤ 100000000) (hW1 : W1 = W.alloc (.cells c.toArray E)) :
    ∃ a n cp w', (Builtin.append_ #[T, T] ty #[v, .slice (some ⟨W.heap.size, 0, none⟩) 1 1]).run Try.prog W1 = .ok (.slice a n cp) w' ∧ Acc E o' lo S w'.heap.size w' (.slice a n cp) (xs ++ [y]) ∧ Turn lo (lo + 1) W0 w' ∧ W.heap.size < w'.heap.size ∧ (∀ k, k < W.heap.size → hi9 ≤ k → w'.heap[k]? = W.heap[k]?) := by
  obtain ⟨fv, f1, f2, f3⟩ := hown
  obtain ⟨fy, b1, b2, b3⟩ := hy
  have hts := ht.size
  have hyl := o'.lt b1
  obtain ⟨a, n, cp, w', fv', hr, c1, c2, c3, c4, ⟨c5, c6, c7⟩, c8⟩ := run_app_fp (W := W) (W1 := W1) hT hE hz hpos hby hsz ty v xs c y fv fy f1 f2 b1 b2 (fun k hk hk2 => by have := b3 k hk; have := (f3 k hk2).2; omega) hone hn hW1
  refine ⟨a, n, cp, w', hr, ⟨fv', c1, c2, fun k hk => ?_⟩, ⟨c5.trans ht.os, c6.trans ht.tape, c7.trans ht.output, by omega, fun k hk hx => ?_⟩, c4, fun k hk hx => c8 k hk (fun hb => by have := (f3 k hb).2; omega)⟩
  · rcases c3 k hk with h | h | h
    · have := f3 k h; have := (O.slice E o').lt f1 k h; omega
    · have := b3 k h; have := hyl k h; omega
    · omega
  · rw [c8 k (by omega) (fun hb => by have := (f3 k hb).1; omega)]
    exact ht.block k hk hx

theorem cell_box2 {W : World} {p : Addr} {v : Value} {x : Obj} (h : W.cell? p = some v) : (W.drew.alloc x).cell? p = some v :=
  ((Below.refl W.heap.size W).drew.alloc (Nat.le_refl _) x |>.cell (cell_lt h)).trans h
/-- The text of an atom, and of a query. -/
def wordA (a : DA) : List UInt8 := a.1.data.toList ++ [40] ++ namesOf a.2 ++ [41]
def fmtQ (q : DQ) : List UInt8 := if validQ q then spaced (q.2.map wordA) else []
theorem wordA_bs (ml : List UInt8) (vs : List Int) : wordA (bs ml, vs) = ml ++ [40] ++ namesOf vs ++ [41] := by simp [wordA]
theorem name_len {ml : List UInt8} (h : nameB (bs ml) = true) : ml.length = 1 := by
  simp only [nameB, Bool.and_eq_true, decide_eq_true_eq] at h
  have := h.1
  rwa [bs_size] at this
theorem lens_atoms : ∀ {xs : List DA}, (∀ a ∈ xs, (wordA a).length ≤ 6) → Lib.lens (xs.map wordA) ≤ 6 * xs.length
  | [], _ => by simp [Lib.lens]
  | a :: t, h => by
    have h1 := h a (by simp)
    have h2 := lens_atoms (fun b hb => h b (List.mem_cons_of_mem a hb))
    simp only [Lib.lens, List.map_cons, List.sum_cons, List.length_cons] at h2 ⊢
    omega
theorem word_len {q : DQ} {n : Nat} (hq : QOk q n) : ∀ a ∈ q.2, (wordA a).length ≤ 6 := by
  intro a ha
  have h1 := hq.name a ha
  have h2 := hq.vlen a ha
  have h3 := namesOf_len a.2
  simp only [nameB, Bool.and_eq_true, decide_eq_true_eq] at h1
  have h4 : a.1.data.toList.length = 1 := h1.1
  simp only [wordA, List.length_append, List.length_cons, List.length_nil]
  omega

set_option maxRecDepth 100000 in
set_option maxHeartbeats 2000000 in
theorem fmtQ_impl (cs : List Value) (x : DQ) (w : World) (h : rQ.rep w cs x) :
    Calls Try.prog 8 #[.agg cs.toArray] w fun e w' => e = .returned (.string (bs (fmtQ x))) ∧ Below w.heap.size w w' := by
  have HV := Lib.hid (fun W (hW : Below w.heap.size w W) => validQ_impl cs x W (rQ.mono h hW))
  obtain ⟨qb, qn, qc, rfl, hi2, gq⟩ := rQ_open h
  obtain ⟨ok, hok⟩ : ∃ ok, validQ x = ok := ⟨_, rfl⟩
  rw [hok] at HV
  have HF : Hid (fmtQ x = if ok then spaced (x.2.map wordA) else []) := Lib.hid (by rw [fmtQ, hok])
  have HQ : Hid (ok = true → x.2.length ≤ 4 ∧ (∀ a ∈ x.2, (wordA a).length ≤ 6) ∧ (∀ a ∈ x.2, nameB a.1 = true ∧ a.2.length ≤ 3)) := Lib.hid (fun h9 => by
    obtain ⟨n, hq⟩ := QOk.of (hok.trans h9)
    exact ⟨hq.len, word_len hq, fun a ha => ⟨hq.name a ha, hq.vlen a ha⟩⟩)
  obtain ⟨vq, xs⟩ := x
  simp only at hi2 gq HQ
  have t0 := rS_sl gq
  have hl := t0.len
  clear h gq hok
  have hb0 : Below w.heap.size w w := Below.refl _ _
  go_enter Try.func8, Try.ntmps8
  obtain ⟨w1, hw1⟩ : ∃ W, W = w.alloc (.cells #[.int .i64 vq, .slice qb qn qc] 29) := ⟨_, rfl⟩
  have z1 : Below w.heap.size w w1 := by rw [hw1]; exact (Below.refl _ _).alloc (Nat.le_refl _) _
  have s1 : w1.heap.size = w.heap.size + 1 := by rw [hw1]; simp
  have hb1 := on hb0 z1
  have q_0 : w1.cell? ⟨w.heap.size, 0, none⟩ = some (.int .i64 vq) := by rw [hw1]; exact box_cell (Below.refl _ _) rfl
  have q_1 : w1.cell? ⟨w.heap.size, 1, none⟩ = some (.slice qb qn qc) := by rw [hw1]; exact box_cell (Below.refl _ _) rfl
  have raw1_q_0 := q_0
  have raw1_q_1 := q_1
  rw [hw1] at raw1_q_0 raw1_q_1
  go_wp2_with fail
  rw [← hw1]
  clear hw1
  clear raw1_q_0 raw1_q_1
  refine (HV.out _ hb1).mono ?_
  rintro e wV ⟨rfl, zV⟩
  have s2 := zV.size
  have hb2 := on hb1 zV
  replace q_0 := (zV.cell (p := ⟨w.heap.size, 0, none⟩) (by simp only []; omega)).trans q_0
  replace q_1 := (zV.cell (p := ⟨w.heap.size, 1, none⟩) (by simp only []; omega)).trans q_1
  cases ok with
  | false =>
    have HE : Hid (fmtQ (vq, xs) = []) := Lib.hid (by rw [HF.out]; rfl)
    go_wp2_with fail
    go_ret
    exact ⟨by rw [HE.out]; rfl, hb2⟩
  | true =>
    obtain ⟨hx4, hw6, hnm⟩ := HQ.out rfl
    have HE : Hid (fmtQ (vq, xs) = spaced (xs.map wordA)) := Lib.hid (by rw [HF.out]; rfl)
    have HNM := Lib.hid hnm
    have hlens := lens_atoms hw6
    clear HQ HF hnm hw6
    obtain ⟨w3, hw3⟩ : ∃ W, W = wV.alloc (.cells #[] 9) := ⟨_, rfl⟩
    have z3 : Below wV.heap.size wV w3 := by rw [hw3]; exact (Below.refl _ _).alloc (Nat.le_refl _) _
    have s3 : w3.heap.size = wV.heap.size + 1 := by rw [hw3]; simp
    have hb3 := on hb2 z3
    replace q_0 := (z3.cell (p := ⟨w.heap.size, 0, none⟩) (by simp only []; omega)).trans q_0
    replace q_1 := (z3.cell (p := ⟨w.heap.size, 1, none⟩) (by simp only []; omega)).trans q_1
    have he : ∀ S, Acc 9 O.str wV.heap.size S w3.heap.size w3 (.slice (some ⟨wV.heap.size, 0, none⟩) 0 0) [] := fun S => by rw [hw3]; exact Acc.empty (by omega) (by first | (simp; done) | (simp; omega))
    have raw3_q_0 := q_0
    have raw3_q_1 := q_1
    rw [hw3] at raw3_q_0 raw3_q_1
    go_wp2_with fail
    rw [← hw3]
    clear hw3
    clear raw3_q_0 raw3_q_1
    have hW1s : wV.heap.size < w3.heap.size := by omega
    go_loopw [3, 13] (fun v k wr => ∃ (j n9 c9 : Nat) (a9 : Option Addr), j ≤ qn ∧ k = .int .i64 j ∧ v = .slice a9 n9 c9 ∧ Acc 9 O.str wV.heap.size w3.heap.size wr.heap.size wr (.slice a9 n9 c9) (((xs.take j).map wordA).map bs) ∧ Turn wV.heap.size (wV.heap.size + 1) w3 wr) (fun _ k _ => qn - (intOf k).toNat)
    case atStart => exact ⟨0, _, _, _, Nat.zero_le _, rfl, rfl, (he _).wide (Nat.le_refl _) (by omega), turn_refl _ _ _⟩
    case round =>
      obtain ⟨j, n9, c9, a9, hj, rfl, rfl, hacc, hdr⟩ := hrel
      have hlc := hdr
      clear he
      have s4 := hdr.size
      have hb4 := hb3.trans ((hdr.below (by omega)).mono (by omega))
      replace q_0 := (hdr.cell (p := ⟨w.heap.size, 0, none⟩) (by simp only []; omega) (by simp only []; omega)).trans q_0
      replace q_1 := (hdr.cell (p := ⟨w.heap.size, 1, none⟩) (by simp only []; omega) (by simp only []; omega)).trans q_1
      obtain ⟨wo, rfl⟩ : ∃ W, W = wr := ⟨_, rfl⟩
      by_cases hlt : j < qn
      · obtain ⟨b1, o1, cs, a, rfl, hx, hr, hc⟩ := t0.at hlt
        obtain ⟨m1, vs⟩ := a
        obtain ⟨ml, rfl⟩ : ∃ ml, m1 = bs ml := ⟨_, (bs_of m1).symm⟩
        obtain ⟨vb, vn, vc, rfl, hs, gv⟩ := rA_open hr
        have hxm := List.mem_of_getElem? hx.out
        have hnl := name_len (HNM.out _ hxm).1
        have hvl := (HNM.out _ hxm).2
        simp only at hvl gv
        have hno := namesOf_len vs
        have e_lt : b1 < w.heap.size := cell_lt (hc 0 _ rfl)
        have e_0 : wo.cell? ⟨b1, o1 + j * 2, none⟩ = some (.string (bs ml)) := (hb4.cell (p := ⟨b1, o1 + j * 2, none⟩) e_lt).trans (by have h9 := hc 0 _ rfl; rw [← Nat.add_assoc] at h9; exact h9)
        have e_1 : wo.cell? ⟨b1, o1 + j * 2 + 1, none⟩ = some (.slice vb vn vc) := (hb4.cell (p := ⟨b1, o1 + j * 2 + 1, none⟩) e_lt).trans (by have h9 := hc 1 _ rfl; rw [← Nat.add_assoc] at h9; exact h9)
        have HW : Hid (((xs.take (j + 1)).map wordA).map bs = ((xs.take j).map wordA).map bs ++ [bs (wordA (bs ml, vs))]) := Lib.hid (by rw [List.take_add_one, hx.out]; simp)
        have HWB := Lib.hid (wordA_bs ml vs)
        have h3 := List.length_take_le j xs
        clear hc hx hr hs hxm
        obtain ⟨w5, hw5⟩ : ∃ W, W = wo.alloc (.cells #[.string (bs ml), .slice vb vn vc] 46) := ⟨_, rfl⟩
        have z5 : Below wo.heap.size wo w5 := by rw [hw5]; exact (Below.refl _ _).alloc (Nat.le_refl _) _
        have s5 : w5.heap.size = wo.heap.size + 1 := by rw [hw5]; simp
        have hb5 := on hb4 z5
        have old5_q_0 := q_0
        have old5_q_1 := q_1
        have old5_e_0 := e_0
        have old5_e_1 := e_1
        replace q_0 := (z5.cell (p := ⟨w.heap.size, 0, none⟩) (by simp only []; omega)).trans q_0
        replace q_1 := (z5.cell (p := ⟨w.heap.size, 1, none⟩) (by simp only []; omega)).trans q_1
        replace e_0 := (z5.cell (p := ⟨b1, o1 + j * 2, none⟩) (by simp only []; omega)).trans e_0
        replace e_1 := (z5.cell (p := ⟨b1, o1 + j * 2 + 1, none⟩) (by simp only []; omega)).trans e_1
        have a_0 : w5.cell? ⟨wo.heap.size, 0, none⟩ = some (.string (bs ml)) := by rw [hw5]; exact box_cell (Below.refl _ _) rfl
        have a_1 : w5.cell? ⟨wo.heap.size, 1, none⟩ = some (.slice vb vn vc) := by rw [hw5]; exact box_cell (Below.refl _ _) rfl
        have raw5_q_0 := q_0
        have raw5_q_1 := q_1
        have raw5_e_0 := e_0
        have raw5_e_1 := e_1
        have raw5_a_0 := a_0
        have raw5_a_1 := a_1
        rw [hw5] at raw5_q_0 raw5_q_1 raw5_e_0 raw5_e_1 raw5_a_0 raw5_a_1
        have hax : w5.heap.size = wo.heap.size + 1 := by omega
        have hacc2 := (hacc.below (show Below wo.heap.size wo w5 by assumption) (Nat.le_refl _)).below ((Below.refl w5.heap.size w5).drew) (by omega)
        have hlc2 := (hlc.trans (turn_below (show Below wo.heap.size wo w5 by assumption) (by omega))).trans (turn_below ((Below.refl w5.heap.size w5).drew) (Nat.le_refl _))
        have HN := Lib.hid (names_impl (.slice vb vn vc) vs w5.drew (rI.mono gv (hb5).drew) (by omega))
        have hwl : (bs (wordA (bs ml, vs))).size ≤ 9223372036854775807 := by
          rw [HWB.out, bs_size]
          simp only [List.length_append, List.length_cons, List.length_nil]
          omega
        have hgz : w5.drew.heap.size = w5.heap.size := rfl
        obtain ⟨va2, vn2, vc2, wN, hrun, haccN, htN, hsN, hfr⟩ := run_accF Try.underlying49 infoStr rfl (by decide) (by decide) (o' := O.str) rfl (lo := wV.heap.size) (W0 := w3) (W := w5.drew) 49 _ _ [.string (bs (wordA (bs ml, vs)))] (bs (wordA (bs ml, vs))) hacc2 (own_str (lo := wo.heap.size) (hi := wo.heap.size) hwl) (by intro z hz; simp at hz; subst hz; rfl) (Nat.le_refl _) (by omega) hW1s hlc2 rfl (by rw [List.length_map, List.length_map]; omega) rfl
        have k_0 : wN.cell? ⟨wo.heap.size, 0, none⟩ = some (.string (bs ml)) := (World.cell?_of_block (a := ⟨wo.heap.size, 0, none⟩) (hfr wo.heap.size (by rw [hgz]; omega) (Nat.le_refl _))).trans a_0
        have k_1 : wN.cell? ⟨wo.heap.size, 1, none⟩ = some (.slice vb vn vc) := (World.cell?_of_block (a := ⟨wo.heap.size, 1, none⟩) (hfr wo.heap.size (by rw [hgz]; omega) (Nat.le_refl _))).trans a_1
        have hword : ((bs ml ++ ByteArray.mk #[40]) ++ bs (namesOf vs)) ++ ByteArray.mk #[41] = bs (wordA (bs ml, vs)) := by
          rw [HWB.out, ← bs_app, ← bs_app, ← bs_app]
        rw [show w5.drew.heap.size = wo.heap.size + 1 from hax] at hrun
        have HC9 := Lib.hid haccN
        have HT9 := Lib.hid htN
        clear hacc hacc2 hlc hlc2 haccN htN hfr gv
        have hgs : w5.heap.size = wo.heap.size + 1 := hax
        go_wp2_with fail
        rw [← hw5]
        clear hw5
        clear old5_q_0 old5_q_1 old5_e_0 old5_e_1 raw5_q_0 raw5_q_1 raw5_e_0 raw5_e_1 raw5_a_0 raw5_a_1
        refine wp_region_noPanic ?_
        refine wp_region_held_drew (S := (fun W => W.cell? ⟨wo.heap.size, 0, none⟩ = some (.string (bs ml)) ∧ W.cell? ⟨wo.heap.size, 1, none⟩ = some (.slice vb vn vc))) (by kernel_rfl) ?hS6 (fun hHeld => ?_)
        case hS6 => exact ⟨a_0, a_1⟩
        refine wpAnyH_take (i := 0) (v := ?v0_7) rfl (by kernel_rfl) (by kernel_rfl) (by kernel_rfl) (fun _ _ _ h => h) (Or.inl ⟨by rfl, ?hy0_7⟩) (by assumption) ?rest0_7
        case hy0_7 => intro w hSw; (try dsimp only at hSw); go_simp; (try with_reducible rfl)
        try simp only [Act.put, List.getElem_toArray, List.getElem_cons_succ, List.getElem_cons_zero, List.setIfInBounds_toArray, List.set_cons_zero, List.set_cons_succ]
        refine wpAnyH_take (i := 1) (v := ?v1_8) rfl (by kernel_rfl) (by kernel_rfl) (by kernel_rfl) (fun _ _ _ h => h) (Or.inl ⟨by rfl, ?hy1_8⟩) (by assumption) ?rest1_8
        case hy1_8 => intro w hSw; (try dsimp only at hSw); go_simp; (try with_reducible rfl)
        try simp only [Act.put, List.getElem_toArray, List.getElem_cons_succ, List.getElem_cons_zero, List.setIfInBounds_toArray, List.set_cons_zero, List.set_cons_succ]
        refine wpAnyH_take (i := 2) (v := ?v2_9) rfl (by kernel_rfl) (by kernel_rfl) (by kernel_rfl) (fun _ _ _ h => h) (Or.inl ⟨by rfl, ?hy2_9⟩) (by assumption) ?rest2_9
        case hy2_9 => intro w hSw; (try dsimp only at hSw); go_simp; (try with_reducible rfl)
        try simp only [Act.put, List.getElem_toArray, List.getElem_cons_succ, List.getElem_cons_zero, List.setIfInBounds_toArray, List.set_cons_zero, List.set_cons_succ]
        refine wpAnyH_take (i := 3) (v := ?v3q) rfl (by kernel_rfl) (by kernel_rfl) (by kernel_rfl) (fun _ _ _ h => h) (Or.inl ⟨by rfl, ?hy3q⟩) (by assumption) ?rest3q
        case hy3q => intro w hSw; (try dsimp only at hSw); go_simp; (first | (with_reducible rfl) | rfl | (split <;> first | rfl | (exfalso; omega)))
        try simp only [Act.put, List.getElem_toArray, List.getElem_cons_succ, List.getElem_cons_zero, List.setIfInBounds_toArray, List.set_cons_zero, List.set_cons_succ]
        refine wpAnyH_take (i := 4) (v := ?v4_10) rfl (by kernel_rfl) (by kernel_rfl) (by kernel_rfl) (fun _ _ _ h => h) (Or.inl ⟨by rfl, ?hy4_10⟩) (by assumption) ?rest4_10
        case hy4_10 => intro w hSw; (try dsimp only at hSw); go_simp; (try with_reducible rfl)
        try simp only [Act.put, List.getElem_toArray, List.getElem_cons_succ, List.getElem_cons_zero, List.setIfInBounds_toArray, List.set_cons_zero, List.set_cons_succ]
        refine wpAnyH_take (i := 5) (v := ?v5_11) rfl (by kernel_rfl) (by kernel_rfl) (by kernel_rfl) (fun _ _ _ h => h) (Or.inl ⟨by rfl, ?hy5_11⟩) (by assumption) ?rest5_11
        case hy5_11 => intro w hSw; (try dsimp only at hSw); go_simp; (try with_reducible rfl)
        try simp only [Act.put, List.getElem_toArray, List.getElem_cons_succ, List.getElem_cons_zero, List.setIfInBounds_toArray, List.set_cons_zero, List.set_cons_succ]
        refine wpAnyH_ready (rs := [6]) (by kernel_rfl) (by simp) ?_
        refine AllReadyH.cons rfl (fun K hK => ?_) AllReadyH.nil
        go_simp; (refine HN.out.mono ?_); rintro e w' ⟨rfl, rfl⟩
        refine hK.out _ _ ?_ (fun hHeld => ?_)
        · exact ⟨a_0, a_1⟩
        clear hK K
        try simp only [Act.put, List.setIfInBounds_toArray, List.set_cons_zero, List.set_cons_succ]
        refine wpAnyH_take (i := 7) (v := ?v7q) rfl (by kernel_rfl) (by kernel_rfl) (by kernel_rfl) (fun _ _ _ h => h) (Or.inl ⟨by rfl, ?hy7q⟩) (by assumption) ?rest7q
        case hy7q => intro w hSw; (try dsimp only at hSw); go_simp; (first | (with_reducible rfl) | rfl | (split <;> first | rfl | (exfalso; omega)))
        try simp only [Act.put, List.getElem_toArray, List.getElem_cons_succ, List.getElem_cons_zero, List.setIfInBounds_toArray, List.set_cons_zero, List.set_cons_succ]
        refine wpAnyH_take (i := 8) (v := .string (bs (wordA (bs ml, vs)))) rfl (by kernel_rfl) (by kernel_rfl) (by kernel_rfl) (fun _ _ _ h => h) (Or.inl ⟨by rfl, ?hy8q⟩) (by assumption) ?rest8q
        case hy8q => intro w hSw; (try dsimp only at hSw); go_simp; (first | exact hword | exact congrArg Value.string hword | omega | (rw [hword]))
        try simp only [Act.put, List.getElem_toArray, List.getElem_cons_succ, List.getElem_cons_zero, List.setIfInBounds_toArray, List.set_cons_zero, List.set_cons_succ]
        refine wpAnyH_ready (rs := [9]) (by kernel_rfl) (by simp) ?_
        refine AllReadyH.cons rfl (fun K hK => ?_) AllReadyH.nil
        go_simp
        refine hK.out _ _ ?_ (fun hHeld => ?_)
        · exact ⟨cell_box2 a_0, cell_box2 a_1⟩
        clear hK K
        try simp only [Act.put, List.setIfInBounds_toArray, List.set_cons_zero, List.set_cons_succ]
        refine wpAnyH_ready (rs := [10]) (by kernel_rfl) (by simp) ?_
        refine AllReadyH.cons rfl (fun K hK => ?_) AllReadyH.nil
        refine step_app2 hrun (by rfl) (by rfl) (by rfl) (by rfl) (by rfl) ?_
        refine hK.out _ _ ?_ (fun hHeld => ?_)
        · exact ⟨k_0, k_1⟩
        clear hK K
        try simp only [Act.put, List.setIfInBounds_toArray, List.set_cons_zero, List.set_cons_succ]
        refine wpAnyH_take (i := 11) (v := ?v11_12) rfl (by kernel_rfl) (by kernel_rfl) (by kernel_rfl) (fun _ _ _ h => h) (Or.inl ⟨by rfl, ?hy11_12⟩) (by assumption) ?rest11_12
        case hy11_12 => intro w hSw; (try dsimp only at hSw); go_simp; (try with_reducible rfl)
        try simp only [Act.put, List.getElem_toArray, List.getElem_cons_succ, List.getElem_cons_zero, List.setIfInBounds_toArray, List.set_cons_zero, List.set_cons_succ]
        refine wpAnyH_done (by kernel_rfl) ?_ _
        refine NoPanic.normal ?_
        go_wp2_with fail
        go_roundw
        case rel => exact ⟨j + 1, vn2, vc2, va2, by omega, by go_num, rfl, by rw [HW.out]; exact HC9.out, HT9.out⟩
        case measure => simp [intOf]; omega
      · rw [show xs.take j = xs from List.take_of_length_le (by omega)] at hacc
        have HJ := Lib.hid (joined_any hacc (by rw [List.length_map]; omega))
        clear hacc
        go_wp2_with fail
        refine HJ.out.mono ?_
        rintro e w8 ⟨rfl, z8⟩
        have s13 := z8.size
        have hb13 := on hb4 z8
        replace q_0 := (z8.cell (p := ⟨w.heap.size, 0, none⟩) (by simp only []; omega)).trans q_0
        replace q_1 := (z8.cell (p := ⟨w.heap.size, 1, none⟩) (by simp only []; omega)).trans q_1
        go_wp2_with fail
        go_ret
        exact ⟨by rw [HE.out]; rfl, hb13⟩

set_option maxRecDepth 100000 in
set_option maxHeartbeats 2000000 in
theorem fmtQ_spec (cs : List Value) (x : DQ) (w : World) (h : rQ.rep w cs x) :
    Calls Try.prog 6 #[.agg cs.toArray] w fun e w' => e = .returned (.string (bs (fmtQ x))) ∧ Below w.heap.size w w' := by
  have HV := Lib.hid (fun W (hW : Below w.heap.size w W) => validQ_spec cs x W (rQ.mono h hW))
  obtain ⟨qb, qn, qc, rfl, hi2, gq⟩ := rQ_open h
  obtain ⟨ok, hok⟩ : ∃ ok, validQ x = ok := ⟨_, rfl⟩
  rw [hok] at HV
  have HF : Hid (fmtQ x = if ok then spaced (x.2.map wordA) else []) := Lib.hid (by rw [fmtQ, hok])
  have HQ : Hid (ok = true → x.2.length ≤ 4 ∧ (∀ a ∈ x.2, (wordA a).length ≤ 6) ∧ (∀ a ∈ x.2, nameB a.1 = true ∧ a.2.length ≤ 3)) := Lib.hid (fun h9 => by
    obtain ⟨n, hq⟩ := QOk.of (hok.trans h9)
    exact ⟨hq.len, word_len hq, fun a ha => ⟨hq.name a ha, hq.vlen a ha⟩⟩)
  obtain ⟨vq, xs⟩ := x
  simp only at hi2 gq HQ
  have t0 := rS_sl gq
  have hl := t0.len
  have hqs := t0.small
  clear h gq hok
  have hb0 : Below w.heap.size w w := Below.refl _ _
  go_enter Try.func6, Try.ntmps6
  obtain ⟨w1, hw1⟩ : ∃ W, W = w.alloc (.cells #[.int .i64 vq, .slice qb qn qc] 29) := ⟨_, rfl⟩
  have z1 : Below w.heap.size w w1 := by rw [hw1]; exact (Below.refl _ _).alloc (Nat.le_refl _) _
  have s1 : w1.heap.size = w.heap.size + 1 := by rw [hw1]; simp
  have hb1 := on hb0 z1
  have q_0 : w1.cell? ⟨w.heap.size, 0, none⟩ = some (.int .i64 vq) := by rw [hw1]; exact box_cell (Below.refl _ _) rfl
  have q_1 : w1.cell? ⟨w.heap.size, 1, none⟩ = some (.slice qb qn qc) := by rw [hw1]; exact box_cell (Below.refl _ _) rfl
  have raw1_q_0 := q_0
  have raw1_q_1 := q_1
  rw [hw1] at raw1_q_0 raw1_q_1
  go_wp2_with fail
  rw [← hw1]
  clear hw1
  clear raw1_q_0 raw1_q_1
  go_loopw [3, 4] (fun s k wr => ∃ j : Nat, j ≤ qn ∧ (ok = false → j = 0) ∧ k = .int .i64 j ∧ s = .string (bs (spaced ((xs.map wordA).take j))) ∧ Below w1.heap.size w1 wr) (fun _ k _ => qn - (intOf k).toNat)
  case atStart => exact ⟨0, Nat.zero_le _, fun _ => rfl, rfl, by rw [List.take_zero]; rfl, Below.refl _ _⟩
  case round =>
    obtain ⟨j, hj, hj9, rfl, rfl, hdr⟩ := hrel
    have hlc := hdr
    have s2 := hdr.size
    have hb2 := on hb1 hdr
    replace q_0 := (hdr.cell (p := ⟨w.heap.size, 0, none⟩) (by simp only []; omega)).trans q_0
    replace q_1 := (hdr.cell (p := ⟨w.heap.size, 1, none⟩) (by simp only []; omega)).trans q_1
    by_cases hlt : j < qn
    · go_wp2_with fail
      refine (HV.out _ hb2).mono ?_
      rintro e w5 ⟨rfl, z5⟩
      have s3 := z5.size
      have hb3 := on hb2 z5
      replace q_0 := (z5.cell (p := ⟨w.heap.size, 0, none⟩) (by simp only []; omega)).trans q_0
      replace q_1 := (z5.cell (p := ⟨w.heap.size, 1, none⟩) (by simp only []; omega)).trans q_1
      replace hlc := on hlc z5
      cases ok with
      | false =>
        obtain rfl : j = 0 := hj9 rfl
        have HE : Hid (fmtQ (vq, xs) = []) := Lib.hid (by rw [HF.out]; rfl)
        go_wp2_with fail
        go_ret
        exact ⟨by rw [HE.out]; rfl, hb3⟩
      | true =>
        obtain ⟨wr, rfl⟩ : ∃ W, W = w5 := ⟨_, rfl⟩
        obtain ⟨hx4, hw6, hnm⟩ := HQ.out rfl
        have hlens := lens_atoms hw6
        have hpj := lens_take (xs.map wordA) j
        rw [List.length_map] at hpj
        obtain ⟨b1, o1, cs, a, rfl, hx, hr, hc⟩ := t0.at hlt
        obtain ⟨m1, vs⟩ := a
        obtain ⟨ml, rfl⟩ : ∃ ml, m1 = bs ml := ⟨_, (bs_of m1).symm⟩
        obtain ⟨vb, vn, vc, rfl, hs, gv⟩ := rA_open hr
        have hxm := List.mem_of_getElem? hx.out
        have hnl := name_len (hnm _ hxm).1
        have hvl := (hnm _ hxm).2
        simp only at hvl gv
        have hno := namesOf_len vs
        have e_lt : b1 < w.heap.size := cell_lt (hc 0 _ rfl)
        have e_0 : wr.cell? ⟨b1, o1 + j * 2, none⟩ = some (.string (bs ml)) := (hb3.cell (p := ⟨b1, o1 + j * 2, none⟩) e_lt).trans (by have h9 := hc 0 _ rfl; rw [← Nat.add_assoc] at h9; exact h9)
        have e_1 : wr.cell? ⟨b1, o1 + j * 2 + 1, none⟩ = some (.slice vb vn vc) := (hb3.cell (p := ⟨b1, o1 + j * 2 + 1, none⟩) e_lt).trans (by have h9 := hc 1 _ rfl; rw [← Nat.add_assoc] at h9; exact h9)
        have HS := Lib.hid (spaced_snoc (ws := xs.map wordA) (j := j) (y := wordA (bs ml, vs)) (by rw [List.getElem?_map, hx.out]; rfl))
        have HWB := Lib.hid (wordA_bs ml vs)
        have HN := Lib.hid (fun n9 => names_spec (.slice vb vn vc) vs (wr.drewN n9) (rI.mono gv ((hb3).trans ((Drew.below ⟨n9, rfl⟩ _)))) (by omega))
        have hjq : (j : Int) < (qn : Int) := by omega
        clear hc hx hr hs hxm hnm hw6 gv HQ
        by_cases hj0 : j = 0
        · skip
          subst hj0
          have e9_0 : wr.cell? ⟨b1, o1, none⟩ = some (.string (bs ml)) := by simpa using e_0
          have e9_1 : wr.cell? ⟨b1, o1 + 1, none⟩ = some (.slice vb vn vc) := by simpa using e_1
          clear e_0 e_1
          have HEQ : Hid (bs (spaced ((xs.map wordA).take (0 + 1))) = (((bs (spaced []) ++ bs ml) ++ ByteArray.mk #[40]) ++ bs (namesOf vs)) ++ ByteArray.mk #[41]) := Lib.hid (by rw [HS.out, if_pos rfl, HWB.out, ← bs_app, ← bs_app, ← bs_app, show bs (spaced []) ++ bs ml = bs ml from by rw [bs_app]; rfl])
          have hz1 : ¬ 9223372036854775807 < (bs (spaced [])).size + (bs ml).size := by simp [bs, ByteArray.size] at *; omega
          have hz2 : ¬ 9223372036854775807 < (bs (spaced []) ++ bs ml).size + (ByteArray.mk #[40]).size := by simp [bs, ByteArray.size] at *; omega
          have hz3 : ¬ 9223372036854775807 < (bs (spaced []) ++ bs ml ++ ByteArray.mk #[40]).size + (bs (namesOf vs)).size := by simp [bs, ByteArray.size] at *; omega
          have hz4 : ¬ 9223372036854775807 < (bs (spaced []) ++ bs ml ++ ByteArray.mk #[40] ++ bs (namesOf vs)).size + (ByteArray.mk #[41]).size := by simp [bs, ByteArray.size] at *; omega
          go_wp2_with fail
          go_quiet ((go_at_call 17; exact quiet_same (HN.out _)))
          go_wp2_with fail
          go_roundw
          case rel => exact ⟨0 + 1, by omega, (fun h9 => by cases h9), by go_num, by rw [HEQ.out], onD hlc ⟨_, rfl⟩⟩
          case measure => simp [intOf]; omega
        · skip
          have hj1 : (0 : Int) < (j : Int) := by omega
          have HEQ : Hid (bs (spaced ((xs.map wordA).take (j + 1))) = ((((bs (spaced ((xs.map wordA).take j)) ++ ByteArray.mk #[32]) ++ bs ml) ++ ByteArray.mk #[40]) ++ bs (namesOf vs)) ++ ByteArray.mk #[41]) := Lib.hid (by rw [HS.out, if_neg hj0, HWB.out]; simp only [← bs_app, ByteArray.append_assoc])
          have hz0 : ¬ 9223372036854775807 < (bs (spaced ((xs.map wordA).take j))).size + (ByteArray.mk #[32]).size := by simp [bs, ByteArray.size] at *; omega
          have hz1 : ¬ 9223372036854775807 < ((bs (spaced ((xs.map wordA).take j)) ++ ByteArray.mk #[32])).size + (bs ml).size := by simp [bs, ByteArray.size] at *; omega
          have hz2 : ¬ 9223372036854775807 < ((bs (spaced ((xs.map wordA).take j)) ++ ByteArray.mk #[32]) ++ bs ml).size + (ByteArray.mk #[40]).size := by simp [bs, ByteArray.size] at *; omega
          have hz3 : ¬ 9223372036854775807 < ((bs (spaced ((xs.map wordA).take j)) ++ ByteArray.mk #[32]) ++ bs ml ++ ByteArray.mk #[40]).size + (bs (namesOf vs)).size := by simp [bs, ByteArray.size] at *; omega
          have hz4 : ¬ 9223372036854775807 < ((bs (spaced ((xs.map wordA).take j)) ++ ByteArray.mk #[32]) ++ bs ml ++ ByteArray.mk #[40] ++ bs (namesOf vs)).size + (ByteArray.mk #[41]).size := by simp [bs, ByteArray.size] at *; omega
          go_wp2_with fail
          go_quiet ((go_at_call 17; exact quiet_same (HN.out _)))
          go_wp2_with fail
          go_roundw
          case rel => exact ⟨j + 1, by omega, (fun h9 => by cases h9), by go_num, by rw [HEQ.out], onD hlc ⟨_, rfl⟩⟩
          case measure => simp [intOf]; omega
    · have HE : Hid (fmtQ (vq, xs) = spaced ((xs.map wordA).take j)) := Lib.hid (by
        rw [HF.out]
        cases ok with
        | true => rw [if_pos rfl, List.take_of_length_le (by rw [List.length_map]; omega)]
        | false => obtain rfl : j = 0 := hj9 rfl; rfl)
      go_wp2_with fail
      go_ret
      exact ⟨by rw [HE.out]; rfl, hb2⟩

end Go.Proofs.Ytigcagplbihenaa

/- The walk of the law FormatQuery. Written by a program. -/
namespace Go.Proofs.Ytigcagplbihenaa
open Go.RowKit
set_option linter.unusedVariables false
set_option linter.unusedSimpArgs false
set_option synthInstance.maxSize 2000
set_option synthInstance.maxHeartbeats 400000

set_option maxHeartbeats 4000000 in
set_option maxRecDepth 100000 in
theorem walk_FnExactFormatQuery (v0 : Value) (w : World) (h0 : kQ_in w v0) :
    Calls Try.prog 3 #[v0] w fun e w' => e = .returned (.bool true) ∧ Below w.heap.size w w' := by
  obtain ⟨c0, x0, rfl, h0⟩ := h0
  obtain ⟨bu0, nu0, cu0, rfl⟩ := rQ_form h0
  have hb0 : Below w.heap.size w w := Below.refl _ _
  go_enter Try.func3, Try.ntmps3
  obtain ⟨w1, hw1⟩ : ∃ W, W = w.alloc (.cells #[.int .i64 x0.1, .slice bu0 nu0 cu0] 24) := ⟨_, rfl⟩
  have z1 : Below w.heap.size w w1 := by rw [hw1]; exact (Below.refl _ _).alloc (Nat.le_refl _) _
  have s1 : w1.heap.size = w.heap.size + 1 := by rw [hw1]; simp
  have hb1 := on hb0 z1
  have bp0_0 : w1.cell? ⟨w.heap.size, 0, none⟩ = some (.int .i64 x0.1) := by rw [hw1]; exact box_cell (Below.refl _ _) rfl
  have bp0_1 : w1.cell? ⟨w.heap.size, 1, none⟩ = some (.slice bu0 nu0 cu0) := by rw [hw1]; exact box_cell (Below.refl _ _) rfl
  go_wp2_with fail
  rw [← hw1]
  clear hw1
  refine (sz_Q _ x0 (1048576) _ (rQ.mono h0 hb1) (by omega) (by omega)).mono ?_
  rintro e w2 ⟨rfl, z2⟩
  have s2 := z2.size
  have hb2 := on hb1 z2
  replace bp0_0 := (z2.cell (p := ⟨w.heap.size, 0, none⟩) (by simp only []; omega)).trans bp0_0
  replace bp0_1 := (z2.cell (p := ⟨w.heap.size, 1, none⟩) (by simp only []; omega)).trans bp0_1
  obtain ⟨q0, hq0⟩ : ∃ q, q = szR (1048576) (bulk_Q x0) := ⟨_, rfl⟩
  rw [← hq0]
  have hc0 := szR_cases (1048576) (bulk_Q x0)
  rw [← hq0] at hc0
  clear hq0
  rcases hc0 with ⟨rfl, _⟩ | ⟨hq0, hbk0⟩
  · go_wp2_with fail
    go_ret
    exact ⟨rfl, hb2⟩
  have hlo0 : 0 ≤ q0 ∧ q0 ≤ 1048576 := by omega
  have hbl0 : bulk_Q x0 ≤ 1048576 := by omega
  obtain ⟨hlo0, hlp0⟩ := hlo0
  have HQ0 := Lib.hid hq0
  clear hq0 hbk0
  go_wp2_with fail
  refine (to_Q _ _ _ (rQ.mono h0 hb2) (by omega)).mono ?_
  rintro e w3 ⟨ct0, rfl, t0, z3⟩
  have s3 := z3.size
  have hb3 := on hb2 z3
  replace bp0_0 := (z3.cell (p := ⟨w.heap.size, 0, none⟩) (by simp only []; omega)).trans bp0_0
  replace bp0_1 := (z3.cell (p := ⟨w.heap.size, 1, none⟩) (by simp only []; omega)).trans bp0_1
  obtain ⟨but0, nut0, cut0, rfl⟩ := oQ_form t0
  go_wp2_with fail
  refine (fmtQ_spec _ x0 _ (t0.rd reads_Q)).mono ?_
  rintro e w4 ⟨rfl, z4⟩
  have s4 := z4.size
  have hb4 := on hb3 z4
  replace t0 := t0.below z4 (by omega)
  replace bp0_0 := (z4.cell (p := ⟨w.heap.size, 0, none⟩) (by simp only []; omega)).trans bp0_0
  replace bp0_1 := (z4.cell (p := ⟨w.heap.size, 1, none⟩) (by simp only []; omega)).trans bp0_1
  clear t0
  go_wp2_with fail
  refine (to_Q _ _ _ (rQ.mono h0 hb4) (by omega)).mono ?_
  rintro e w5 ⟨cy0, rfl, y0, z5⟩
  have s5 := z5.size
  have hb5 := on hb4 z5
  replace bp0_0 := (z5.cell (p := ⟨w.heap.size, 0, none⟩) (by simp only []; omega)).trans bp0_0
  replace bp0_1 := (z5.cell (p := ⟨w.heap.size, 1, none⟩) (by simp only []; omega)).trans bp0_1
  obtain ⟨buy0, nuy0, cuy0, rfl⟩ := oQ_form y0
  obtain ⟨w6, hw6⟩ : ∃ W, W = w5.alloc (.cells #[.int .i64 x0.1, .slice buy0 nuy0 cuy0] 29) := ⟨_, rfl⟩
  have z6 : Below w5.heap.size w5 w6 := by rw [hw6]; exact (Below.refl _ _).alloc (Nat.le_refl _) _
  have s6 : w6.heap.size = w5.heap.size + 1 := by rw [hw6]; simp
  have hb6 := on hb5 z6
  replace y0 := y0.below z6 (by omega)
  replace bp0_0 := (z6.cell (p := ⟨w.heap.size, 0, none⟩) (by simp only []; omega)).trans bp0_0
  replace bp0_1 := (z6.cell (p := ⟨w.heap.size, 1, none⟩) (by simp only []; omega)).trans bp0_1
  have by0_0 : w6.cell? ⟨w5.heap.size, 0, none⟩ = some (.int .i64 x0.1) := by rw [hw6]; exact box_cell (Below.refl _ _) rfl
  have by0_1 : w6.cell? ⟨w5.heap.size, 1, none⟩ = some (.slice buy0 nuy0 cuy0) := by rw [hw6]; exact box_cell (Below.refl _ _) rfl
  have raw_bp0_0 := bp0_0
  rw [hw6] at raw_bp0_0
  have raw_bp0_1 := bp0_1
  rw [hw6] at raw_bp0_1
  have raw_by0_0 := by0_0
  rw [hw6] at raw_by0_0
  have raw_by0_1 := by0_1
  rw [hw6] at raw_by0_1
  go_wp2_with fail
  rw [← hw6]
  clear hw6
  clear raw_bp0_0 raw_bp0_1 raw_by0_0 raw_by0_1
  refine (fmtQ_impl _ x0 _ (y0.rd reads_Q)).mono ?_
  rintro e w7 ⟨rfl, z7⟩
  have s7 := z7.size
  have hb7 := on hb6 z7
  replace y0 := y0.below z7 (by omega)
  replace bp0_0 := (z7.cell (p := ⟨w.heap.size, 0, none⟩) (by simp only []; omega)).trans bp0_0
  replace bp0_1 := (z7.cell (p := ⟨w.heap.size, 1, none⟩) (by simp only []; omega)).trans bp0_1
  replace by0_0 := (z7.cell (p := ⟨w5.heap.size, 0, none⟩) (by simp only []; omega)).trans by0_0
  replace by0_1 := (z7.cell (p := ⟨w5.heap.size, 1, none⟩) (by simp only []; omega)).trans by0_1
  go_wp2_with fail
  go_region_held3 (fun W => W.cell? ⟨w5.heap.size, 0, none⟩ = some (.int .i64 x0.1) ∧ W.cell? ⟨w5.heap.size, 1, none⟩ = some (.slice buy0 nuy0 cuy0) ∧ W.cell? ⟨w.heap.size, 0, none⟩ = some (.int .i64 x0.1) ∧ W.cell? ⟨w.heap.size, 1, none⟩ = some (.slice bu0 nu0 cu0)) (first | exact ⟨by0_0, by0_1, bp0_0, bp0_1⟩ | assumption) (first | (go_at_call 7; refine (to_Q _ x0 _ (rQ.mono h0 hb7.drew) (by omega)).mono ?_; rintro e w8 ⟨du0, rfl, u0, z8⟩; replace z8 : Below w7.heap.size w7 w8 := (Below.refl _ _).drew.trans z8; have hS0 := (⟨(z8.cell (p := ⟨w5.heap.size, 0, none⟩) (by simp only []; omega)).trans by0_0, (z8.cell (p := ⟨w5.heap.size, 1, none⟩) (by simp only []; omega)).trans by0_1, (z8.cell (p := ⟨w.heap.size, 0, none⟩) (by simp only []; omega)).trans bp0_0, (z8.cell (p := ⟨w.heap.size, 1, none⟩) (by simp only []; omega)).trans bp0_1⟩ : (fun W => W.cell? ⟨w5.heap.size, 0, none⟩ = some (.int .i64 x0.1) ∧ W.cell? ⟨w5.heap.size, 1, none⟩ = some (.slice buy0 nuy0 cuy0) ∧ W.cell? ⟨w.heap.size, 0, none⟩ = some (.int .i64 x0.1) ∧ W.cell? ⟨w.heap.size, 1, none⟩ = some (.slice bu0 nu0 cu0)) w8); obtain ⟨buu0, nuu0, cuu0, rfl⟩ := oQ_form u0; have y0' := y0.below z8 (by omega)) | (go_at_call 9; refine (eq_Q _ _ x0 x0 _ (y0'.rd reads_Q) (u0.rd reads_Q)).mono ?_; rintro e w9 ⟨rfl, z9⟩; have s8 := z8.size; have hT0 := (⟨(z9.cell (p := ⟨w5.heap.size, 0, none⟩) (by simp only []; omega)).trans hS0.1, (z9.cell (p := ⟨w5.heap.size, 1, none⟩) (by simp only []; omega)).trans hS0.2.1, (z9.cell (p := ⟨w.heap.size, 0, none⟩) (by simp only []; omega)).trans hS0.2.2.1, (z9.cell (p := ⟨w.heap.size, 1, none⟩) (by simp only []; omega)).trans hS0.2.2.2⟩ : (fun W => W.cell? ⟨w5.heap.size, 0, none⟩ = some (.int .i64 x0.1) ∧ W.cell? ⟨w5.heap.size, 1, none⟩ = some (.slice buy0 nuy0 cuy0) ∧ W.cell? ⟨w.heap.size, 0, none⟩ = some (.int .i64 x0.1) ∧ W.cell? ⟨w.heap.size, 1, none⟩ = some (.slice bu0 nu0 cu0)) w9)))
  replace z8 : Below w7.heap.size w7 w8 := z8
  clear u0 y0' hS0 hT0
  have t8 := z8.size
  have hb8 := on hb7 z8
  replace y0 := y0.below z8 (by omega)
  replace bp0_0 := (z8.cell (p := ⟨w.heap.size, 0, none⟩) (by simp only []; omega)).trans bp0_0
  replace bp0_1 := (z8.cell (p := ⟨w.heap.size, 1, none⟩) (by simp only []; omega)).trans bp0_1
  replace by0_0 := (z8.cell (p := ⟨w5.heap.size, 0, none⟩) (by simp only []; omega)).trans by0_0
  replace by0_1 := (z8.cell (p := ⟨w5.heap.size, 1, none⟩) (by simp only []; omega)).trans by0_1
  have t9 := z9.size
  have hb9 := on hb8 z9
  replace y0 := y0.below z9 (by omega)
  replace bp0_0 := (z9.cell (p := ⟨w.heap.size, 0, none⟩) (by simp only []; omega)).trans bp0_0
  replace bp0_1 := (z9.cell (p := ⟨w.heap.size, 1, none⟩) (by simp only []; omega)).trans bp0_1
  replace by0_0 := (z9.cell (p := ⟨w5.heap.size, 0, none⟩) (by simp only []; omega)).trans by0_0
  replace by0_1 := (z9.cell (p := ⟨w5.heap.size, 1, none⟩) (by simp only []; omega)).trans by0_1
  go_wp2_with fail
  go_ret
  exact ⟨rfl, hb9⟩

end Go.Proofs.Ytigcagplbihenaa
