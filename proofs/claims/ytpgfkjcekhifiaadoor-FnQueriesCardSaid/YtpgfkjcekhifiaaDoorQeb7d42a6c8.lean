/- Texts joined for one claim: ParQP, QryP. -/
import Derived.Test.YtpgfkjcekhifiaaDoorQd80ea7563d
import Derived.Test.YtpgfkjcekhifiaaDoorQ9a843b066a
import Derived.Test.YtpgfkjcekhifiaaDoorQ1236d00423
import Derived.Laws.RangeAny
import Derived.Lib.SplitLaws
import Derived.Lib.IndexBytes

/- Queries out of texts, plain: what the program's reading of the words leaves gives what the reference's gives. -/
namespace Go.Proofs.YtpgfkjcekhifiaaDoor
open Go.RowKit
set_option linter.unusedVariables false
set_option linter.unusedSimpArgs false

/-- The texts between the blanks, as strings.Split gives them. -/
theorem splitK_cut : ∀ (n : Nat) (l : List UInt8), l.length ≤ n → Lib.splitK [32] 0 (Lib.count l [32]) l = cutL l := by
  intro n
  induction n with
  | zero =>
    intro l hl
    have e : l = [] := List.length_eq_zero_iff.1 (by omega)
    subst e
    rfl
  | succ n ih =>
    intro l hl
    rcases Lib.index_spec l [32] with ⟨h, _⟩ | ⟨i, h, hi, _, _⟩
    · rw [Lib.count_miss h]
      have h2 := h
      rw [Lib.index_one] at h2
      rw [cut_end (Lib.indexByte_none h2)]
      rfl
    · have h2 := h
      rw [Lib.index_one] at h2
      obtain ⟨h3, h4⟩ := Lib.indexByte_some h2
      have hil : i < l.length := (List.getElem?_eq_some_iff.1 h3).1
      rw [Lib.count_hit (by simp) h, cut_at (fun k hk => h4 k hk) h3, Nat.add_comm 1]
      unfold Lib.splitK
      have hne : ¬ (Lib.index l [32] == -1) = true := fun e => by have := beq_iff_eq.1 e; omega
      have e9 : (Lib.index l [32]).toNat = i := by omega
      rw [if_neg hne, e9]
      simp only [Nat.add_zero, List.length_cons, List.length_nil, Nat.zero_add]
      rw [ih (l.drop (i + 1)) (by rw [List.length_drop]; omega)]
theorem splitB_cut (l : List UInt8) : (Lib.splitB (ByteArray.mk #[32]) 0 (Lib.countB (bs l) (ByteArray.mk #[32])) (bs l)).map (fun x => x.data.toList) = cutL l := by
  rw [Lib.splitB_data]
  exact splitK_cut l.length l (Nat.le_refl _)
def isL (b : UInt8) : Bool := b == 88 || b == 89 || b == 90 || b == 85
/-- What strings.IndexRune gives at a letter. -/
def varB (b : UInt8) : Int := if b = 88 then 0 else if b = 89 then 1 else if b = 90 then 2 else if b = 85 then 3 else -1
theorem varB_rng (b : UInt8) : -1 ≤ varB b ∧ varB b ≤ 3 := by
  unfold varB
  split
  · omega
  · split
    · omega
    · split
      · omega
      · split <;> omega
theorem varB_is {b : UInt8} (h : isL b = true) : varI b = [varB b] := by
  simp only [isL, Bool.or_eq_true, beq_iff_eq] at h
  rcases h with ((rfl | rfl) | rfl) | rfl <;> rfl
theorem varB_index (b : UInt8) : Lib.indexByte [88, 89, 90, 85] b = varB b := by
  unfold varB
  by_cases h0 : b = 88
  · subst h0; rfl
  · by_cases h1 : b = 89
    · subst h1; rfl
    · by_cases h2 : b = 90
      · subst h2; rfl
      · by_cases h3 : b = 85
        · subst h3; rfl
        · simp [Lib.indexByte, h0, h1, h2, h3, Ne.symm h0, Ne.symm h1, Ne.symm h2, Ne.symm h3]
/-- What the program reads of the letters of a word: the reference's variables, if all are letters. -/
structure Rd (l : List UInt8) (vs : List Int) : Prop where
  is : l.all isL = true → vs = varsL l
  rng : ∀ v ∈ vs, -1 ≤ v ∧ v ≤ 3
  len : vs.length ≤ l.length
theorem Rd.nil : Rd [] [] := ⟨fun _ => rfl, fun _ h => (List.not_mem_nil h).elim, Nat.le_refl _⟩
theorem Rd.low {l : List UInt8} {vs : List Int} (h : Rd l vs) (b : UInt8) : Rd (l ++ [b]) (vs ++ [varB b]) := by
  refine ⟨fun h9 => ?_, fun v hv => ?_, by have := h.len; simp only [List.length_append, List.length_cons, List.length_nil]; omega⟩
  · simp only [List.all_append, List.all_cons, List.all_nil, Bool.and_true, Bool.and_eq_true] at h9
    rw [h.is h9.1, ← varB_is h9.2]
    simp [varsL]
  · rcases List.mem_append.1 hv with hv | hv
    · exact h.rng v hv
    · rw [List.mem_singleton] at hv
      subst hv
      exact varB_rng b
theorem Rd.high {l : List UInt8} {vs : List Int} (h : Rd l vs) {b : UInt8} (hb : 128 ≤ b.toNat) (t : List UInt8) : Rd (l ++ b :: t) (vs ++ [-1]) := by
  refine ⟨fun h9 => ?_, fun v hv => ?_, by have := h.len; simp only [List.length_append, List.length_cons, List.length_nil]; omega⟩
  · exfalso
    simp only [List.all_append, List.all_cons, Bool.and_eq_true] at h9
    have h8 := h9.2.1
    simp only [isL, Bool.or_eq_true, beq_iff_eq] at h8
    rcases h8 with ((rfl | rfl) | rfl) | rfl <;> revert hb <;> decide
  · rcases List.mem_append.1 hv with hv | hv
    · exact h.rng v hv
    · rw [List.mem_singleton] at hv
      omega
theorem Rd.stepLow {l : List UInt8} {vs : List Int} {p : Nat} {b : UInt8} (h : Rd (l.take p) vs) (hp : l[p]? = some b) : Rd (l.take (p + 1)) (vs ++ [varB b]) := by
  rw [List.take_add_one, hp]
  exact h.low b
theorem Rd.stepHigh {l : List UInt8} {vs : List Int} {p k : Nat} {b : UInt8} (h : Rd (l.take p) vs) (hp : l[p]? = some b) (hb : 128 ≤ b.toNat) (hk : 1 ≤ k) : Rd (l.take (p + k)) (vs ++ [-1]) := by
  have hpl := (List.getElem?_eq_some_iff.1 hp).1
  have e : l.take (p + k) = l.take p ++ b :: (l.drop (p + 1)).take (k - 1) := by
    rw [List.take_add, List.drop_eq_getElem_cons hpl, (List.getElem?_eq_some_iff.1 hp).2]
    obtain ⟨j, rfl⟩ : ∃ j, k = j + 1 := ⟨k - 1, by omega⟩
    simp
  rw [e]
  exact h.high hb _
/-- What the program holds behind some words. -/
inductive IQ : List (List UInt8) → DQ → Prop
  | nil : IQ [] (0, [])
  | snoc {ws : List (List UInt8)} {q : DQ} {l : List UInt8} {vs : List Int} : IQ ws q → Rd (lets l) vs → IQ (ws ++ [l]) (maxV q.1 vs, q.2 ++ [(bs (l.take 1), vs)])
theorem IQ.step {ws : List (List UInt8)} {q : DQ} {l : List UInt8} {vs : List Int} {j : Nat} (h : IQ (ws.take j) q) (hj : ws[j]? = some l) (hr : Rd (lets l) vs) : IQ (ws.take (j + 1)) (maxV q.1 vs, q.2 ++ [(bs (l.take 1), vs)]) := by
  rw [List.take_add_one, hj]
  exact h.snoc hr
theorem maxV_hi : ∀ {vs : List Int} {c : Int}, 0 ≤ c ∧ c ≤ 4 → (∀ v ∈ vs, -1 ≤ v ∧ v ≤ 3) → 0 ≤ maxV c vs ∧ maxV c vs ≤ 4
  | [], c, hc, _ => hc
  | v :: t, c, hc, h => by
    have := h v (List.mem_cons_self ..)
    exact maxV_hi (vs := t) (c := max c (v + 1)) (by omega) (fun u hu => h u (List.mem_cons_of_mem _ hu))
theorem IQ.rng {ws : List (List UInt8)} {q : DQ} (h : IQ ws q) : 0 ≤ q.1 ∧ q.1 ≤ 4 := by
  induction h with
  | nil => exact ⟨Int.le_refl _, by decide⟩
  | snoc _ hr ih => exact maxV_hi ih hr.rng
theorem IQ.len {ws : List (List UInt8)} {q : DQ} (h : IQ ws q) : q.2.length = ws.length := by
  induction h with
  | nil => rfl
  | snoc _ _ ih => simp only [List.length_append, List.length_cons, List.length_nil, ih]
theorem rawQ_snoc' (ws : List (List UInt8)) (l : List UInt8) : rawQ (ws ++ [l]) = (maxV (rawQ ws).1 (varsL (lets l)), (rawQ ws).2 ++ [atomW l]) := by
  simp [rawQ, maxV_app]
theorem IQ.raw {ws : List (List UInt8)} {q : DQ} (h : IQ ws q) : (∀ l ∈ ws, (lets l).all isL = true) → q = rawQ ws := by
  induction h with
  | nil => intro _; rfl
  | @snoc ws q l vs _ hr ih =>
    intro h9
    have e := ih (fun m hm => h9 m (List.mem_append_left _ hm))
    have e2 := hr.is (h9 l (by simp))
    rw [rawQ_snoc', ← e, e2]
    rfl
theorem cut_pre : ∀ {a : List UInt8} (r : List UInt8), (∀ b ∈ a, b ≠ 32) → cutL (a ++ 32 :: r) = a :: cutL r
  | [], r, _ => by simp [cutL]
  | b :: t, r, h => by
    have h0 : b ≠ 32 := h b (by simp)
    have ih := cut_pre (a := t) r (fun c hc => h c (List.mem_cons_of_mem _ hc))
    rw [List.cons_append, show cutL (b :: (t ++ 32 :: r)) = (if b = 32 then [] :: cutL (t ++ 32 :: r) else match cutL (t ++ 32 :: r) with | h :: r => (b :: h) :: r | [] => [[b]]) from rfl, if_neg h0, ih]
theorem cut_spaced : ∀ {ws : List (List UInt8)}, ws ≠ [] → (∀ l ∈ ws, ∀ b ∈ l, b ≠ 32) → cutL (spaced ws) = ws
  | [], h, _ => absurd rfl h
  | [l], _, h => by
    have e : spaced [l] = l := by simp [spaced, Lib.join_one]
    rw [e]
    exact cut_end (fun k hk => h l (by simp) 32 (List.mem_of_getElem? hk) rfl)
  | l :: m :: t, _, h => by
    have ih := cut_spaced (ws := m :: t) (by simp) (fun k hk => h k (List.mem_cons_of_mem _ hk))
    have e : spaced (l :: m :: t) = l ++ 32 :: spaced (m :: t) := by
      simp [spaced, Lib.join_cons, Lib.joinTail]
    rw [e, cut_pre _ (fun b hb => h l (by simp) b hb), ih]
theorem chV_is {v : Int} (h : 0 ≤ v ∧ v ≤ 3) : ∃ b, chV v = [b] ∧ isL b = true := by
  rcases (by omega : v = 0 ∨ v = 1 ∨ v = 2 ∨ v = 3) with rfl | rfl | rfl | rfl
  · exact ⟨88, rfl, rfl⟩
  · exact ⟨89, rfl, rfl⟩
  · exact ⟨90, rfl, rfl⟩
  · exact ⟨85, rfl, rfl⟩
theorem names_is : ∀ {vs : List Int}, (∀ v ∈ vs, 0 ≤ v ∧ v ≤ 3) → (namesOf vs).all isL = true ∧ (namesOf vs).length = vs.length
  | [], _ => ⟨rfl, rfl⟩
  | v :: t, h => by
    obtain ⟨b, e, hb⟩ := chV_is (h v (by simp))
    obtain ⟨h1, h2⟩ := names_is (vs := t) (fun u hu => h u (List.mem_cons_of_mem _ hu))
    have e9 : namesOf (v :: t) = b :: namesOf t := by
      show chV v ++ namesOf t = _
      rw [e]; rfl
    rw [e9]
    exact ⟨by rw [List.all_cons, hb, h1]; rfl, by simp [h2]⟩
theorem isL_ne {b : UInt8} (h : isL b = true) : b ≠ 32 := by
  intro e; subst e; revert h; decide
/-- What is known of the words of a valid query's text. -/
theorem words_of {q : DQ} {l : List UInt8} (hv : validQ q = true) (hf : fmtQ q = l) : cutL l = q.2.map wordA ∧ (cutL l).length ≤ 4 ∧ ∀ w ∈ cutL l, 4 ≤ w.length ∧ w.length ≤ 6 ∧ (lets w).all isL = true := by
  obtain ⟨n, hq⟩ := QOk.of hv
  have hw : ∀ a ∈ q.2, (4 ≤ (wordA a).length ∧ (wordA a).length ≤ 6 ∧ (lets (wordA a)).all isL = true) ∧ ∀ b ∈ wordA a, b ≠ 32 := by
    intro a ha
    have h1 := hq.name a ha
    have h2 := hq.vlen a ha
    have h3 := hq.vpos a ha
    have hle := hq.le
    obtain ⟨h4, h5⟩ := names_is (vs := a.2) (fun v hv => by have := hq.vars a ha v hv; omega)
    obtain ⟨nm, vs⟩ := a
    simp only [nameB, Bool.and_eq_true, decide_eq_true_eq] at h1
    obtain ⟨c, rfl⟩ := size_one h1.1
    have h6 := h1.2
    simp only [betw, decide_eq_true_eq, Bool.and_eq_true] at h6
    have e : wordA (⟨⟨[c]⟩⟩, vs) = c :: 40 :: (namesOf vs ++ [41]) := by simp [wordA]
    have h7 : 97 ≤ c.toNat := by
      have := h6.1
      simp at this
      omega
    rw [e]
    simp only at h2 h3 h4 h5
    refine ⟨⟨by simp; omega, by simp; omega, ?_⟩, ?_⟩
    · have e2 : lets (c :: 40 :: (namesOf vs ++ [41])) = namesOf vs := by
        unfold lets
        simp
      rw [e2, h4]
    · intro b hb
      simp only [List.mem_cons, List.mem_append, List.not_mem_nil, or_false] at hb
      rcases hb with rfl | rfl | hb | rfl
      · intro e9; subst e9; revert h7; decide
      · decide
      · exact isL_ne (List.all_eq_true.1 h4 b hb)
      · decide
  have hcut : cutL l = q.2.map wordA := by
    rw [← hf]
    unfold fmtQ
    rw [if_pos hv]
    refine cut_spaced (fun e => ?_) (fun w hw9 b hb => ?_)
    · have e1 := congrArg List.length e
      have e2 := hq.lpos
      simp only [List.length_map, List.length_nil] at e1
      omega
    · obtain ⟨a, ha, rfl⟩ := List.mem_map.1 hw9
      exact (hw a ha).2 b hb
  refine ⟨hcut, by rw [hcut, List.length_map]; exact hq.len, fun w hw9 => ?_⟩
  rw [hcut] at hw9
  obtain ⟨a, ha, rfl⟩ := List.mem_map.1 hw9
  exact (hw a ha).1
theorem parQ_some {l : List UInt8} {q : DQ} (h : parQ (bs l) = some q) : q = rawQ ((cutL l).take 5) ∧ validQ q = true ∧ fmtQ q = l := by
  unfold parQ at h
  split at h
  · rename_i h9
    simp only [Option.some.injEq] at h
    subst h
    rw [Bool.and_eq_true, Bool.and_eq_true, decide_eq_true_eq] at h9
    exact ⟨rfl, h9.2.1, h9.2.2⟩
  · cases h
theorem parQ_short {l w : List UInt8} (h : w ∈ cutL l) (h3 : w.length < 3) : parQ (bs l) = none := by
  cases hp : parQ (bs l) with
  | none => rfl
  | some q =>
    obtain ⟨_, hv, hf⟩ := parQ_some hp
    have := ((words_of hv hf).2.2 w h).1
    omega
theorem parQ_of {l : List UInt8} {q : DQ} (h : IQ (cutL l) q) (h3 : ∀ w ∈ cutL l, 3 ≤ w.length) : parQ (bs l) = if fmtQ q = l then some q else none := by
  by_cases hf : fmtQ q = l
  · rw [if_pos hf]
    have hv : validQ q = true := by
      cases hv : validQ q with
      | true => rfl
      | false =>
        exfalso
        have e : fmtQ q = [] := by unfold fmtQ; rw [hv]; rfl
        rw [e] at hf
        subst hf
        have := h3 [] (by simp [cutL])
        simp at this
    obtain ⟨_, h4, hw⟩ := words_of hv hf
    have e := h.raw (fun w hw9 => (hw w hw9).2.2)
    have e5 : (cutL l).take 5 = cutL l := List.take_of_length_le (by omega)
    unfold parQ
    have e9 : (bs l).data.toList = l := rfl
    rw [e9, e5, ← e, if_pos]
    rw [Bool.and_eq_true, Bool.and_eq_true, decide_eq_true_eq]
    refine ⟨List.all_eq_true.2 (fun w hw9 => ?_), hv, hf⟩
    have := hw w hw9
    simp only [lenW, Bool.and_eq_true, decide_eq_true_eq]
    omega
  · rw [if_neg hf]
    cases hp : parQ (bs l) with
    | none => rfl
    | some Q =>
      exfalso
      obtain ⟨hQ, hv, hF⟩ := parQ_some hp
      obtain ⟨_, h4, hw⟩ := words_of hv hF
      have e := h.raw (fun w hw9 => (hw w hw9).2.2)
      rw [List.take_of_length_le (by omega)] at hQ
      rw [e, ← hQ] at hf
      exact hf hF

end Go.Proofs.YtpgfkjcekhifiaaDoor

/- Plain: a valid query is read back from its text; variables of both sides; columns that were asked for. -/
namespace Go.Proofs.YtpgfkjcekhifiaaDoor
open Go.RowKit
set_option linter.unusedVariables false
set_option linter.unusedSimpArgs false

theorem validFrom_cover {n : Nat} {j : Nat} : ∀ {xs : List DA} {m : Nat}, validFrom n m xs = true → (∀ a ∈ xs, ∀ v ∈ a.2, 0 ≤ v) → (2 ^ n - 1).testBit j = (m.testBit j || xs.any (fun a => has a.2 (j : Int)))
  | [], m, h, _ => by
    simp only [validFrom, decide_eq_true_eq] at h
    rw [h]; simp
  | a :: t, m, h, hp => by
    simp only [validFrom, Bool.and_eq_true] at h
    have ih := validFrom_cover (j := j) h.2.2 (fun b hb => hp b (List.mem_cons_of_mem _ hb))
    rw [ih, vbits_test (hp a (by simp)), List.any_cons, Bool.or_assoc]
theorem maxV_ge : ∀ {vs : List Int} {c : Int}, c ≤ maxV c vs ∧ ∀ v ∈ vs, v + 1 ≤ maxV c vs
  | [], c => ⟨Int.le_refl _, fun v hv => by cases hv⟩
  | x :: t, c => by
    obtain ⟨h1, h2⟩ := maxV_ge (vs := t) (c := max c (x + 1))
    have e : maxV c (x :: t) = maxV (max c (x + 1)) t := rfl
    rw [e]
    refine ⟨by omega, fun v hv => ?_⟩
    rcases List.mem_cons.1 hv with rfl | hv
    · omega
    · exact h2 v hv
theorem maxV_le {N : Int} : ∀ {vs : List Int} {c : Int}, c ≤ N → (∀ v ∈ vs, v + 1 ≤ N) → maxV c vs ≤ N
  | [], c, h, _ => h
  | x :: t, c, h, k => by
    have := k x (by simp)
    exact maxV_le (vs := t) (c := max c (x + 1)) (by omega) (fun v hv => k v (List.mem_cons_of_mem _ hv))
theorem vars_names : ∀ {vs : List Int}, (∀ v ∈ vs, 0 ≤ v ∧ v ≤ 3) → varsL (namesOf vs) = vs
  | [], _ => rfl
  | v :: t, h => by
    have ih := vars_names (vs := t) (fun u hu => h u (List.mem_cons_of_mem _ hu))
    have h0 := h v (by simp)
    have e : namesOf (v :: t) = chV v ++ namesOf t := rfl
    have e2 : varsL (chV v) = [v] := by
      rcases (by omega : v = 0 ∨ v = 1 ∨ v = 2 ∨ v = 3) with rfl | rfl | rfl | rfl <;> rfl
    rw [e]
    show (chV v ++ namesOf t).flatMap varI = v :: t
    rw [List.flatMap_append]
    have e3 : (chV v).flatMap varI = [v] := e2
    have e4 : (namesOf t).flatMap varI = t := ih
    rw [e3, e4]
    rfl
theorem word_atom {a : DA} (hn : nameB a.1 = true) (hv : ∀ v ∈ a.2, 0 ≤ v ∧ v ≤ 3) : atomW (wordA a) = a ∧ lets (wordA a) = namesOf a.2 := by
  obtain ⟨nm, vs⟩ := a
  simp only [nameB, Bool.and_eq_true, decide_eq_true_eq] at hn
  obtain ⟨c, rfl⟩ := size_one hn.1
  have e : wordA (⟨⟨[c]⟩⟩, vs) = c :: 40 :: (namesOf vs ++ [41]) := by simp [wordA]
  have e2 : lets (c :: 40 :: (namesOf vs ++ [41])) = namesOf vs := by
    unfold lets
    simp
  rw [e]
  refine ⟨?_, e2⟩
  unfold atomW
  rw [e2, vars_names hv]
  rfl
theorem flatMap_cong {α β : Type} {l : List α} {f g : α → List β} (h : ∀ a ∈ l, f a = g a) : l.flatMap f = l.flatMap g := by
  rw [List.flatMap_def, List.flatMap_def, List.map_congr_left h]
theorem bitsTo_rng {x : Nat} : ∀ {m : Nat} {v : Int}, v ∈ bitsTo x m → 0 ≤ v ∧ v < (m : Int)
  | 0, v, h => by simp [bitsTo] at h
  | m + 1, v, h => by
    cases hb : bitAt x m with
    | true =>
      rw [bitsTo_yes hb] at h
      rcases List.mem_append.1 h with h | h
      · have := bitsTo_rng h; omega
      · simp at h; omega
    | false =>
      rw [bitsTo_no hb] at h
      have := bitsTo_rng h; omega
/-- A valid query is read back from its text. -/
theorem par_fmtQ {q : DQ} (h : validQ q = true) : parQ (bs (fmtQ q)) = some q := by
  obtain ⟨n, hq⟩ := QOk.of h
  have hle := hq.le
  have hat : ∀ a ∈ q.2, atomW (wordA a) = a ∧ lets (wordA a) = namesOf a.2 := fun a ha => word_atom (hq.name a ha) (fun v hv => by have := hq.vars a ha v hv; omega)
  obtain ⟨hc, h4, hw⟩ := words_of h rfl
  have e5 : (cutL (fmtQ q)).take 5 = q.2.map wordA := by rw [List.take_of_length_le (by omega), hc]
  have hmap : (q.2.map wordA).map atomW = q.2 := by
    rw [List.map_map]
    exact (List.map_congr_left (fun a ha => (hat a ha).1)).trans (List.map_id q.2)
  have hfl : (q.2.map wordA).flatMap (fun l => varsL (lets l)) = q.2.flatMap (fun a => a.2) := by
    rw [List.flatMap_map]
    refine flatMap_cong (fun a ha => ?_)
    rw [(hat a ha).2, vars_names (fun v hv => by have := hq.vars a ha v hv; omega)]
  have hcnt : maxV 0 (q.2.flatMap (fun a => a.2)) = q.1 := by
    have h9 := h
    simp only [validQ, Bool.and_eq_true] at h9
    have hp := hq.pos
    have hcv := validFrom_cover (j := n - 1) h9.2 (fun a ha v hv => (hq.vars a ha v hv).1)
    have hn1 : q.1.toNat = n := by have := hq.cnt; omega
    rw [hn1, Nat.testBit_two_pow_sub_one, Nat.zero_testBit, Bool.false_or] at hcv
    have hany : q.2.any (fun a => has a.2 ((n - 1 : Nat) : Int)) = true := by
      rw [← hcv]; simpa using (by omega : n - 1 < n)
    obtain ⟨a, ha, hav⟩ := List.any_eq_true.1 hany
    have hmem : ((n - 1 : Nat) : Int) ∈ q.2.flatMap (fun a => a.2) := List.mem_flatMap.2 ⟨a, ha, by simpa [has] using hav⟩
    have h1 := (maxV_ge (vs := q.2.flatMap (fun a => a.2)) (c := 0)).2 _ hmem
    have h2 := maxV_le (N := (n : Int)) (vs := q.2.flatMap (fun a => a.2)) (c := 0) (by omega) (fun v hv => by
      obtain ⟨b, hb, hbv⟩ := List.mem_flatMap.1 hv
      have := hq.vars b hb v hbv
      omega)
    have := hq.cnt
    omega
  have hraw : rawQ (q.2.map wordA) = q := by
    show (maxV 0 ((q.2.map wordA).flatMap fun l => varsL (lets l)), (q.2.map wordA).map atomW) = q
    rw [hfl, hcnt, hmap]
  unfold parQ
  have e9 : (bs (fmtQ q)).data.toList = fmtQ q := rfl
  rw [e9, e5, hraw, if_pos]
  rw [Bool.and_eq_true, Bool.and_eq_true, decide_eq_true_eq]
  refine ⟨List.all_eq_true.2 (fun w hw9 => ?_), h, rfl⟩
  rw [← hc] at hw9
  have := hw w hw9
  simp only [lenW, Bool.and_eq_true, decide_eq_true_eq]
  omega
theorem par_fmtN {q : DQ} (h : validQ q = false) : parQ (bs (fmtQ q)) = none := by
  have e : fmtQ q = [] := by unfold fmtQ; rw [h]; rfl
  rw [e]
  exact parQ_short (w := []) (by simp [cutL]) (by simp)
theorem maskVars_rng {q : DQ} {k v : Int} (h : v ∈ maskVars q k) : 0 ≤ v ∧ v ≤ 3 := by
  unfold maskVars at h
  split at h
  · have := bitsTo_rng (m := 4) h
    omega
  · cases h
theorem shared_mem {q : DQ} {k l v : Int} (h : v ∈ sharedVars q k l) : has (maskVars q k) v = true ∧ has (maskVars q l) v = true ∧ 0 ≤ v ∧ v ≤ 3 := by
  unfold sharedVars at h
  have h1 := List.mem_filter.1 h
  exact ⟨by simpa [has] using h1.1, h1.2, maskVars_rng h1.1⟩
theorem colsOf_mem {vars xs : List Int} {v : Int} : ∀ {j : Nat}, v ∈ colsOf vars xs j → ∃ i : Nat, i < j ∧ v = (i : Int) ∧ has vars (xs.getD i 0) = true
  | 0, h => by cases h
  | j + 1, h => by
    rw [colsOf] at h
    rcases List.mem_append.1 h with h | h
    · obtain ⟨i, h1, h2, h3⟩ := colsOf_mem h
      exact ⟨i, by omega, h2, h3⟩
    · split at h
      · rename_i h9
        simp only [List.mem_singleton] at h
        exact ⟨j, by omega, h, h9⟩
      · cases h
theorem chV_ne {v : Int} (h : 0 ≤ v ∧ v ≤ 3) : ∃ b, chV v = [b] := by
  obtain ⟨b, h1, _⟩ := chV_is h
  exact ⟨b, h1⟩

end Go.Proofs.YtpgfkjcekhifiaaDoor
