/- Texts joined for one claim: ParQ, ParQS. -/
import Derived.Test.YtpgfkjcekhifiaaGreatQ415a07a1ab
import Derived.Test.YtpgfkjcekhifiaaGreatQ1182156d84
import Derived.Test.YtpgfkjcekhifiaaGreatQ53ae14c1bb
import Derived.Test.YtpgfkjcekhifiaaGreatQad766b37ad
import Derived.Test.YtpgfkjcekhifiaaGreatQ52736f1836
import Derived.Deep.RegionHeld3

namespace Go.Proofs.YtpgfkjcekhifiaaGreat

open Go.RowKit

set_option linter.unusedVariables false

set_option linter.unusedSimpArgs false

set_option synthInstance.maxSize 2000

set_option synthInstance.maxHeartbeats 400000

def varI (b : UInt8) : List Int := if b = 88 then [0] else if b = 89 then [1] else if b = 90 then [2] else if b = 85 then [3] else []

def varTo (b : UInt8) (n : Nat) : List Int := (varI b).filter (fun v => decide (v < (n : Int)))

theorem varTo_zero (b : UInt8) : varTo b 0 = [] := by
  unfold varTo varI
  split
  · rfl
  · split
    · rfl
    · split
      · rfl
      · split <;> rfl

theorem varTo_all (b : UInt8) : varTo b 4 = varI b := by
  unfold varTo varI
  split
  · rfl
  · split
    · rfl
    · split
      · rfl
      · split <;> rfl

theorem chV_letter (b : UInt8) (n : Nat) (hn : n < 4) : varTo b (n + 1) = varTo b n ++ (if chV (n : Int) = [b] then [(n : Int)] else []) := by
  rcases (by omega : n = 0 ∨ n = 1 ∨ n = 2 ∨ n = 3) with rfl | rfl | rfl | rfl
  all_goals
    unfold varTo varI chV
    by_cases h0 : b = 88
    · subst h0; rfl
    · by_cases h1 : b = 89
      · subst h1; rfl
      · by_cases h2 : b = 90
        · subst h2; rfl
        · by_cases h3 : b = 85
          · subst h3; rfl
          · simp [h0, h1, h2, h3, Ne.symm h0, Ne.symm h1, Ne.symm h2, Ne.symm h3]

def varsL (l : List UInt8) : List Int := l.flatMap varI

theorem varsL_snoc {l : List UInt8} {j : Nat} {b : UInt8} (h : l[j]? = some b) : varsL (l.take (j + 1)) = varsL (l.take j) ++ varI b := by
  rw [varsL, List.take_add_one, h]
  simp [varsL]

theorem varI_rng {b : UInt8} {v : Int} (h : v ∈ varI b) : 0 ≤ v ∧ v ≤ 3 := by
  unfold varI at h
  split at h
  · simp at h; omega
  · split at h
    · simp at h; omega
    · split at h
      · simp at h; omega
      · split at h <;> simp at h; omega

def maxV (c : Int) (vs : List Int) : Int := vs.foldl (fun m v => max m (v + 1)) c

theorem maxV_snoc (c : Int) (vs : List Int) (v : Int) : maxV c (vs ++ [v]) = max (maxV c vs) (v + 1) := by simp [maxV]

theorem maxV_app (c : Int) (vs us : List Int) : maxV c (vs ++ us) = maxV (maxV c vs) us := by simp [maxV]

theorem maxV_rng : ∀ {vs : List Int} {c : Int}, 0 ≤ c ∧ c ≤ 4 → (∀ v ∈ vs, 0 ≤ v ∧ v ≤ 3) → 0 ≤ maxV c vs ∧ maxV c vs ≤ 4
  | [], c, hc, _ => hc
  | v :: t, c, hc, h => by
    have := h v (List.mem_cons_self ..)
    exact maxV_rng (vs := t) (c := max c (v + 1)) (by omega) (fun u hu => h u (List.mem_cons_of_mem _ hu))

def lets (l : List UInt8) : List UInt8 := (l.drop 2).take (l.length - 3)

def atomW (l : List UInt8) : DA := (bs (l.take 1), varsL (lets l))

def rawQ (ws : List (List UInt8)) : DQ := (maxV 0 (ws.flatMap fun l => varsL (lets l)), ws.map atomW)

def lenW (l : List UInt8) : Bool := decide (4 ≤ l.length) && decide (l.length ≤ 6)

def parQ (s : ByteArray) : Option DQ :=
  if ((cutL s.data.toList).take 5).all lenW && (validQ (rawQ ((cutL s.data.toList).take 5)) && decide (fmtQ (rawQ ((cutL s.data.toList).take 5)) = s.data.toList)) then some (rawQ ((cutL s.data.toList).take 5)) else none

theorem rawQ_snoc {ws : List (List UInt8)} {j : Nat} {l : List UInt8} (h : ws[j]? = some l) : rawQ (ws.take (j + 1)) = (maxV (rawQ (ws.take j)).1 (varsL (lets l)), (rawQ (ws.take j)).2 ++ [atomW l]) := by
  rw [List.take_add_one, h]
  simp [rawQ, maxV_app]

theorem rawQ_rng (ws : List (List UInt8)) : 0 ≤ (rawQ ws).1 ∧ (rawQ ws).1 ≤ 4 := by
  refine maxV_rng (by omega) (fun v hv => ?_)
  obtain ⟨l, _, hv⟩ := List.mem_flatMap.1 hv
  obtain ⟨b, _, hv⟩ := List.mem_flatMap.1 hv
  exact varI_rng hv

structure PF (X hi : Nat) (a b : World) : Prop where
  os : b.os = a.os
  tape : b.tape = a.tape
  output : b.output = a.output
  size : a.heap.size ≤ b.heap.size
  block : ∀ k, k < hi → k ≠ X → b.heap[k]? = a.heap[k]?

theorem PF.refl (X hi : Nat) (a : World) : PF X hi a a := ⟨rfl, rfl, rfl, Nat.le_refl _, fun _ _ _ => rfl⟩

theorem PF.trans {X hi : Nat} {a b c : World} (h : PF X hi a b) (k : PF X hi b c) : PF X hi a c :=
  ⟨k.os.trans h.os, k.tape.trans h.tape, k.output.trans h.output, Nat.le_trans h.size k.size, fun i h1 h2 => (k.block i h1 h2).trans (h.block i h1 h2)⟩

theorem PF.of {X hi C : Nat} {a b : World} (h : Below C a b) (hC : hi ≤ C) : PF X hi a b := ⟨h.os, h.tape, h.output, h.size, fun k hk _ => h.block k (by omega)⟩

theorem PF.set {X hi : Nat} {a b : World} (h : PF X hi a b) {p : Addr} (hp : p.block = X ∨ hi ≤ p.block) (u : Value) : PF X hi a (b.setCell p u) :=
  h.trans ⟨rfl, rfl, rfl, by simp [World.setCell], fun k hk hx => Below.heap_setCell _ _ _ _ (by omega)⟩

theorem PF.mono {X hi hi' : Nat} {a b : World} (h : PF X hi a b) (hh : hi' ≤ hi) : PF X hi' a b := ⟨h.os, h.tape, h.output, h.size, fun k hk hx => h.block k (by omega) hx⟩

theorem PF.cell {X hi : Nat} {a b : World} (h : PF X hi a b) {p : Addr} (h1 : p.block < hi) (h2 : p.block ≠ X) : b.cell? p = a.cell? p := World.cell?_of_block (h.block _ h1 h2)

theorem PF.frozen {X hi : Nat} {a b : World} (h : PF X hi a b) {p : Addr} (h1 : p.block < hi) (h2 : p.block ≠ X) : b.frozen? p = a.frozen? p := World.frozen?_of_block (h.block _ h1 h2)

theorem PF.own {α : Type} {o : OS α} {X hi lo h2 : Nat} {a b : World} {cs : List Value} {x : α} (h : PF X hi a b) (k : Own o lo h2 a cs x) (h1 : h2 ≤ hi) (hx : X < lo ∨ h2 ≤ X) : Own o lo h2 b cs x := by
  obtain ⟨fp, r, n, q⟩ := k
  exact ⟨fp, o.frame r (fun i hi => h.block i (by have := q i hi; omega) (by have := q i hi; omega)), n, q⟩

theorem PF.below {X hi C : Nat} {a b : World} (h : PF X hi a b) (hC : C ≤ hi) (hX : C ≤ X) : Below C a b := ⟨h.os, h.tape, h.output, h.size, fun k hk => h.block k (by omega) (by omega)⟩

def WSt (X A : Nat) (wA : World) (nm : ByteArray) (ab : Option Addr) (an ac : Nat) (vs : List Int) (cnt : Int) (wr : World) : Prop :=
  ∃ (b : Option Addr) (n c : Nat), wr.cell? ⟨A, 0, none⟩ = some (.string nm) ∧ wr.cell? ⟨A, 1, none⟩ = some (.slice b n c) ∧ wr.frozen? ⟨A, 1, none⟩ = false ∧
    wr.cell? ⟨X, 0, none⟩ = some (.int .i64 cnt) ∧ wr.frozen? ⟨X, 0, none⟩ = false ∧ wr.cell? ⟨X, 1, none⟩ = some (.slice ab an ac) ∧ wr.frozen? ⟨X, 1, none⟩ = false ∧
    Own oI (A + 1) wr.heap.size wr [.slice b n c] vs ∧ PF X A wA wr ∧ A + 1 ≤ wr.heap.size

theorem infoAt : (Tryz.prog.info? 48).map (fun i => (i.zero, i.size, i.bytes)) = some (some (.agg #[.string ⟨#[]⟩, .slice none 0 0]), 2, 40) := by kernel_rfl

theorem own_atom {lo hi h1 h2 : Nat} {W W1 : World} {v : Value} {ys : List DA} {cs : List Value} {r : DA} (ty : TypeId) (h : Own oAs lo hi W [v] ys) (hr : Own oA h1 h2 W cs r) (hh2 : h2 ≤ W.heap.size) (hlo : lo ≤ hi) (hh1 : hi ≤ h1) (hhi : h1 ≤ h2) (hn : ys.length ≤ 1000000) (hW1 : W1 = W.alloc (.cells cs.toArray 48)) :
    ∃ a n c w', (Builtin.append_ #[27, 27] ty #[v, .slice (some ⟨W.heap.size, 0, none⟩) 1 1]).run Tryz.prog W1 = .ok (.slice a n c) w' ∧ Own oAs lo w'.heap.size w' [.slice a n c] (ys ++ [r]) ∧ Turn lo hi W w' ∧ W.heap.size < w'.heap.size := by
  have hrr := hr
  obtain ⟨fu, a2, a4, a9⟩ := h
  obtain ⟨fr, b2, b4, b9⟩ := hr
  obtain ⟨a, n, c, w', fu', hrun, c1, c2, c3, c4, ⟨c5, c6, c7⟩, c8⟩ := run_app_fp (W := W) (W1 := W1) Tryz.underlying27 infoAt rfl (by decide) (by decide) (o' := oA) rfl ty v ys cs r fu fr a2 a4 b2 b4 (fun k hk hk2 => by have := a9 k hk2; have := b9 k hk; omega) (by
    obtain ⟨q1, q2, q3, e⟩ := rA_form (hrr.rd reads_A)
    subst e
    intro z hz
    simp only [List.mem_cons, List.not_mem_nil, or_false] at hz
    rcases hz with rfl | rfl <;> rfl) (by omega) hW1
  have hr2 : ∀ k ∈ fu', lo ≤ k ∧ k < w'.heap.size := fun k hk => by
    rcases c3 k hk with h9 | h9 | h9
    · have := a9 k h9; omega
    · have := b9 k h9; omega
    · omega
  exact ⟨a, n, c, w', hrun, ⟨fu', c1, c2, hr2⟩, ⟨c5, c6, c7, by omega, fun k h1 hk => c8 k h1 (fun hk2 => by have := a9 k hk2; omega)⟩, c4⟩

end Go.Proofs.YtpgfkjcekhifiaaGreat

namespace Go.Proofs.YtpgfkjcekhifiaaGreat

open Go.RowKit

set_option linter.unusedVariables false

set_option linter.unusedSimpArgs false

set_option synthInstance.maxSize 2000

set_option synthInstance.maxHeartbeats 400000

def OSt (w : World) (X lo1 hi1 : Nat) (bw : Option Addr) (nw cw : Nat) (ws : List ByteArray) (q : DQ) (wr : World) : Prop :=
  ∃ (ab : Option Addr) (an ac : Nat), wr.cell? ⟨w.heap.size, 0, none⟩ = some (.int .i64 0) ∧ wr.frozen? ⟨w.heap.size, 0, none⟩ = false ∧ wr.cell? ⟨w.heap.size, 1, none⟩ = some (.slice none 0 0) ∧ wr.frozen? ⟨w.heap.size, 1, none⟩ = false ∧
    wr.cell? ⟨X, 0, none⟩ = some (.int .i64 q.1) ∧ wr.frozen? ⟨X, 0, none⟩ = false ∧ wr.cell? ⟨X, 1, none⟩ = some (.slice ab an ac) ∧ wr.frozen? ⟨X, 1, none⟩ = false ∧
    Own oStr lo1 hi1 wr [.slice bw nw cw] ws ∧ Own oAs hi1 wr.heap.size wr [.slice ab an ac] q.2 ∧ Below w.heap.size w wr ∧ hi1 ≤ wr.heap.size

theorem str_cell {lo hi : Nat} {w : World} {b : Option Addr} {n c : Nat} {xs : List ByteArray} (h : Own oStr lo hi w [.slice b n c] xs) {i : Nat} (hi2 : i < n) : ∃ g x, b = some ⟨g, 0, none⟩ ∧ lo ≤ g ∧ g < hi ∧ xs[i]? = some x ∧ w.cell? ⟨g, i, none⟩ = some (.string x) ∧ x.size ≤ 9223372036854775807 := by
  obtain ⟨fp, ⟨v, css, fps, hv, rfl, h1, h2⟩, hn, hr⟩ := h
  simp only [List.cons.injEq, and_true] at hv
  subst hv
  obtain ⟨a, m, d, e, _, _, hs⟩ := (show Own oStr lo hi w [.slice b n c] xs from ⟨_, ⟨_, css, fps, rfl, rfl, h1, h2⟩, hn, hr⟩).rd (Reads.slice 9 Reads.str)
  simp only [List.cons.injEq, and_true, Value.slice.injEq] at e
  obtain ⟨rfl, rfl, rfl⟩ := e
  have hl := hs.len
  obtain ⟨b1, off, cs, ha, ⟨hc, hz⟩, hcell⟩ := hs.elem i xs[i] (List.getElem?_eq_getElem (by omega))
  subst hc
  have h9 := hcell 0 _ rfl
  rcases h1.2 with ⟨hv, h0⟩ | ⟨g, cap, cur, hv, _⟩
  · simp only [Value.slice.injEq] at hv; omega
  · simp only [Value.slice.injEq] at hv
    rw [hv.1] at ha
    simp only [Option.some.injEq, Addr.mk.injEq] at ha
    obtain ⟨rfl, rfl, _⟩ := ha
    simp only [R.str, Nat.mul_one, Nat.add_zero, Nat.zero_add] at h9
    have hg := hr g (List.mem_append_left _ (by rw [hv.1]; simp [bl, Value.ownBlock]))
    exact ⟨g, xs[i], hv.1, hg.1, hg.2, List.getElem?_eq_getElem (by omega), h9, hz⟩

theorem ext_one {x : ByteArray} {k : Nat} {b : UInt8} (h : x.data.toList[k]? = some b) : x.extract k (k + 1) = bs [b] := by
  have e : (x.extract k (k + 1)).data.toList = [b] := by
    rw [ext_list]
    have hk := (List.getElem?_eq_some_iff.1 h).1
    rw [List.drop_eq_getElem_cons hk, show k + 1 - k = 1 by omega]
    simp [(List.getElem?_eq_some_iff.1 h).2]
  rw [← bs_of (x.extract k (k + 1)), e]

theorem ext_head (x : ByteArray) : x.extract 0 1 = bs (x.data.toList.take 1) := by
  rw [← bs_of (x.extract 0 1), ext_list]; rfl

theorem lets_get {l : List UInt8} {k : Nat} {b : UInt8} (h : l[k]? = some b) (h2 : 2 ≤ k) (h3 : k + 1 < l.length) : (lets l)[k - 2]? = some b := by
  unfold lets
  rw [List.getElem?_take, if_pos (by omega), List.getElem?_drop, show 2 + (k - 2) = k by omega]
  exact h

theorem varsL_len : ∀ l : List UInt8, (varsL l).length ≤ l.length
  | [] => by simp [varsL]
  | b :: t => by
    have ih := varsL_len t
    have h9 : (varI b).length ≤ 1 := by
      unfold varI
      split
      · simp
      · split
        · simp
        · split
          · simp
          · split <;> simp
    have e : varsL (b :: t) = varI b ++ varsL t := by simp [varsL]
    rw [e, List.length_append, List.length_cons]; omega

theorem lets_len (l : List UInt8) (h : 4 ≤ l.length) : (lets l).length = l.length - 3 := by
  unfold lets
  simp only [List.length_take, List.length_drop]; omega

set_option maxRecDepth 100000 in
set_option maxHeartbeats 16000000 in
theorem parQ_spec (l : List UInt8) (w : World) (hs : (bs l).size ≤ 1048576) :
    Calls Tryz.prog 81 #[.string (bs l)] w fun e w' => ∃ (cnt : Int) (b : Option Addr) (n c : Nat), e = .returned (.tuple #[.agg #[.int .i64 cnt, .slice b n c], .bool (parQ (bs l)).isSome]) ∧ Own oQ w.heap.size w'.heap.size w' [.int .i64 cnt, .slice b n c] ((parQ (bs l)).getD (0, [])) ∧ Below w.heap.size w w' := by
  have HP : Hid (parQ (bs l) = if ((cutL l).take 5).all lenW && (validQ (rawQ ((cutL l).take 5)) && decide (fmtQ (rawQ ((cutL l).take 5)) = l)) then some (rawQ ((cutL l).take 5)) else none) := rfl
  obtain ⟨P, hP⟩ : ∃ P, parQ (bs l) = P := ⟨_, rfl⟩
  rw [hP] at HP ⊢
  clear hP
  have hb0 : Below w.heap.size w w := Below.refl _ _
  go_enter Tryz.func81, Tryz.ntmps81
  obtain ⟨w1, hw1⟩ : ∃ W, W = w.alloc (.cells #[.int .i64 0, .slice none 0 0] 29) := ⟨_, rfl⟩
  have z1 : Below w.heap.size w w1 := by rw [hw1]; exact (Below.refl _ _).alloc (Nat.le_refl _) _
  have s1 : w1.heap.size = w.heap.size + 1 := by rw [hw1]; simp
  have hb1 := on hb0 z1
  have R_0 : w1.cell? ⟨w.heap.size, 0, none⟩ = some (.int .i64 0) := by rw [hw1]; exact box_cell (Below.refl _ _) rfl
  have R_1 : w1.cell? ⟨w.heap.size, 1, none⟩ = some (.slice none 0 0) := by rw [hw1]; exact box_cell (Below.refl _ _) rfl
  have R_f0 : w1.frozen? ⟨w.heap.size, 0, none⟩ = false := by rw [hw1]; exact box_frozen (Below.refl _ _)
  have R_f1 : w1.frozen? ⟨w.heap.size, 1, none⟩ = false := by rw [hw1]; exact box_frozen (Below.refl _ _)
  have raw1_R_0 := R_0
  have raw1_R_1 := R_1
  have raw1_R_f0 := R_f0
  have raw1_R_f1 := R_f1
  rw [hw1] at raw1_R_0 raw1_R_1 raw1_R_f0 raw1_R_f1
  obtain ⟨w2, hw2⟩ : ∃ W, W = w1.alloc (.cells #[.int .i64 0, .slice none 0 0] 29) := ⟨_, rfl⟩
  have z2 : Below w1.heap.size w1 w2 := by rw [hw2]; exact (Below.refl _ _).alloc (Nat.le_refl _) _
  have s2 : w2.heap.size = w1.heap.size + 1 := by rw [hw2]; simp
  have hb2 := on hb1 z2
  replace R_0 := bxc z2 R_0
  replace R_1 := bxc z2 R_1
  replace R_f0 := bxf z2 R_f0
  replace R_f1 := bxf z2 R_f1
  have e2 : w1.heap.size = w.heap.size + 1 := by omega
  have X_0 : w2.cell? ⟨w1.heap.size, 0, none⟩ = some (.int .i64 0) := by rw [hw2]; exact box_cell (Below.refl _ _) rfl
  have X_1 : w2.cell? ⟨w1.heap.size, 1, none⟩ = some (.slice none 0 0) := by rw [hw2]; exact box_cell (Below.refl _ _) rfl
  rw [e2] at X_0 X_1
  have X_f0 : w2.frozen? ⟨w1.heap.size, 0, none⟩ = false := by rw [hw2]; exact box_frozen (Below.refl _ _)
  have X_f1 : w2.frozen? ⟨w1.heap.size, 1, none⟩ = false := by rw [hw2]; exact box_frozen (Below.refl _ _)
  rw [e2] at X_f0 X_f1
  have raw2_R_0 := R_0
  have raw2_R_1 := R_1
  have raw2_R_f0 := R_f0
  have raw2_R_f1 := R_f1
  have raw2_X_0 := X_0
  have raw2_X_1 := X_1
  have raw2_X_f0 := X_f0
  have raw2_X_f1 := X_f1
  rw [hw2, hw1] at raw2_R_0 raw2_R_1 raw2_R_f0 raw2_R_f1 raw2_X_0 raw2_X_1 raw2_X_f0 raw2_X_f1
  go_wp2_with fail
  rw [← hw1]
  rw [← hw2]
  clear hw2 hw1
  clear raw1_R_0 raw1_R_1 raw1_R_f0 raw1_R_f1 raw2_R_0 raw2_R_1 raw2_R_f0 raw2_R_f1 raw2_X_0 raw2_X_1 raw2_X_f0 raw2_X_f1
  obtain ⟨lo1, hlo1⟩ : ∃ q, q = w2.heap.size := ⟨_, rfl⟩
  refine (l4Cut_any (bs l) _ hs).mono ?_
  rintro e w3 ⟨bw, nw, cw, ws, rfl, ow, hws, z3⟩
  have s4 := z3.size
  have hb4 := on hb2 z3
  replace R_0 := bxc z3 R_0
  replace R_1 := bxc z3 R_1
  replace R_f0 := bxf z3 R_f0
  replace R_f1 := bxf z3 R_f1
  replace X_0 := bxc z3 X_0
  replace X_1 := bxc z3 X_1
  replace X_f0 := bxf z3 X_f0
  replace X_f1 := bxf z3 X_f1
  rw [← hlo1] at ow
  obtain ⟨hi1, hhi1⟩ : ∃ q, q = w3.heap.size := ⟨_, rfl⟩
  rw [← hhi1] at ow
  have hlh : w.heap.size + 1 + 1 ≤ lo1 ∧ lo1 ≤ hi1 := by omega
  have hnw : nw = ws.length := by
    obtain ⟨a, m, d, e, _, _, h9⟩ := ow.rd (Reads.slice 9 Reads.str)
    simp only [List.cons.injEq, and_true, Value.slice.injEq] at e
    obtain ⟨rfl, rfl, rfl⟩ := e
    exact h9.len.symm
  replace hws : ws.map (fun x => x.data.toList) = cutL l := hws
  have HST : Hid (OSt w (w.heap.size + 1) lo1 hi1 bw nw cw ws (rawQ ((cutL l).take 0)) w3) := Lib.hid ⟨none, 0, 0, R_0, R_f0, R_1, R_f1, X_0, X_f0, X_1, X_f1, ow, (own_nil_S (B := hi1)).mono (Nat.le_refl _) (by omega), hb4, by omega⟩
  have HWS := Lib.hid hws
  have hwl : (cutL l).length = nw := by rw [← hws, List.length_map, hnw]
  have HA0 : Hid (((cutL l).take 0).all lenW = true) := Lib.hid rfl
  have hnws : ws.length = nw := hnw.symm
  clear hws hnw ow hlo1 hhi1
  clear R_0 R_f0 R_1 R_f1 X_0 X_f0 X_1 X_f1
  go_wp2_with fail
  go_loopw [6] (fun i wr => ∃ i9 : Nat, i9 ≤ nw ∧ i9 ≤ 5 ∧ i = .int .i64 (i9 : Int) ∧ Hid (((cutL l).take i9).all lenW = true) ∧ Hid (OSt w (w.heap.size + 1) lo1 hi1 bw nw cw ws (rawQ ((cutL l).take i9)) wr)) (fun i _ => 5 - (intOf i).toNat)
  case atStart => exact ⟨0, Nat.zero_le _, by omega, rfl, HA0, HST⟩
  case round =>
    clear HST HA0
    obtain ⟨i, hi, hi5, rfl, HALL, HS⟩ := hrel
    obtain ⟨ab, an, ac, R_0, R_f0, R_1, R_f1, X_0, X_f0, X_1, X_f1, ow, oat, hbo, hso⟩ := HS.out
    clear HS
    obtain ⟨wo, rfl⟩ : ∃ W, W = wr := ⟨_, rfl⟩
    have hrng := rawQ_rng ((cutL l).take i)
    have hql : (rawQ ((cutL l).take i)).2.length = i := by
      show (((cutL l).take i).map atomW).length = i
      rw [List.length_map, List.length_take]; omega
    obtain ⟨q0, hq0⟩ : ∃ q, rawQ ((cutL l).take i) = q := ⟨_, rfl⟩
    rw [hq0] at hrng hql X_0 oat
    by_cases hlt : i < nw ∧ i ≤ 4
    · obtain ⟨hlt1, hlt2⟩ := hlt
      obtain ⟨gw, wi, rfl, hgw1, hgw2, hwi, cw0, hwsz⟩ := str_cell ow hlt1
      have hli : (cutL l)[i]? = some wi.data.toList := by rw [← HWS.out, List.getElem?_map, hwi]; rfl
      have hll : wi.data.toList.length = wi.size := by simp
      by_cases hlen : 4 ≤ wi.size ∧ wi.size ≤ 6
      · obtain ⟨hlen1, hlen2⟩ := hlen
        have e0 : wi.extract 0 1 = bs (wi.data.toList.take 1) := ext_head wi
        have hz1 : (1 : Int) ≤ (wi.size : Int) := by omega
        have hz2 : ¬ ((wi.size : Int) < 4) := by omega
        have hz3 : ¬ ((6 : Int) < (wi.size : Int)) := by omega
        obtain ⟨nm, hnm⟩ : ∃ q, bs (wi.data.toList.take 1) = q := ⟨_, rfl⟩
        rw [hnm] at e0
        obtain ⟨wA, hwA⟩ : ∃ W, W = wo.alloc (.cells #[.string nm, .slice none 0 0] 48) := ⟨_, rfl⟩
        have zA : Below wo.heap.size wo wA := by rw [hwA]; exact (Below.refl _ _).alloc (Nat.le_refl _) _
        have sA : wo.heap.size + 1 ≤ wA.heap.size := by rw [hwA]; simp
        have A_0 : wA.cell? ⟨wo.heap.size, 0, none⟩ = some (.string nm) := by rw [hwA]; exact box_cell (Below.refl _ _) rfl
        have A_1 : wA.cell? ⟨wo.heap.size, 1, none⟩ = some (.slice none 0 0) := by rw [hwA]; exact box_cell (Below.refl _ _) rfl
        have A_f1 : wA.frozen? ⟨wo.heap.size, 1, none⟩ = false := by rw [hwA]; exact box_frozen (Below.refl _ _)
        have cwA := bxc zA cw0
        go_wp2_with fail
        rw [← hwA]
        clear hwA
        obtain ⟨A, hA⟩ : ∃ q, q = wo.heap.size := ⟨_, rfl⟩
        obtain ⟨li, hli2⟩ : ∃ q, wi.data.toList = q := ⟨_, rfl⟩
        rw [hli2] at hli hll hnm
        have hext : ∀ (k : Nat) (b : UInt8), li[k]? = some b → wi.extract k (k + 1) = bs [b] := fun k b h => ext_one (by rw [hli2]; exact h)
        have HEXT := Lib.hid hext
        have HNM := Lib.hid hnm
        have HLI := Lib.hid hli
        have HX := Lib.hid (⟨(zA.cell (p := ⟨w.heap.size + 1, 0, none⟩) (by simp only []; omega)).trans X_0, (zA.frozen (p := ⟨w.heap.size + 1, 0, none⟩) (by simp only []; omega)).trans X_f0, (zA.cell (p := ⟨w.heap.size + 1, 1, none⟩) (by simp only []; omega)).trans X_1, (zA.frozen (p := ⟨w.heap.size + 1, 1, none⟩) (by simp only []; omega)).trans X_f1⟩ : wA.cell? ⟨w.heap.size + 1, 0, none⟩ = some (.int .i64 q0.1) ∧ wA.frozen? ⟨w.heap.size + 1, 0, none⟩ = false ∧ wA.cell? ⟨w.heap.size + 1, 1, none⟩ = some (.slice ab an ac) ∧ wA.frozen? ⟨w.heap.size + 1, 1, none⟩ = false)
        have HWT0 : Hid (WSt (w.heap.size + 1) wo.heap.size wA nm ab an ac (varsL ((lets li).take (2 - 2))) (maxV q0.1 (varsL ((lets li).take (2 - 2)))) wA) := Lib.hid ⟨none, 0, 0, A_0, A_1, A_f1, HX.out.1, HX.out.2.1, HX.out.2.2.1, HX.out.2.2.2, (own_nil_S (B := wo.heap.size + 1)).mono (Nat.le_refl _) sA, PF.refl _ _ _, sA⟩
        have HRO := Lib.hid (⟨R_0, R_f0, R_1, R_f1⟩ : wo.cell? ⟨w.heap.size, 0, none⟩ = some (.int .i64 0) ∧ wo.frozen? ⟨w.heap.size, 0, none⟩ = false ∧ wo.cell? ⟨w.heap.size, 1, none⟩ = some (.slice none 0 0) ∧ wo.frozen? ⟨w.heap.size, 1, none⟩ = false)
        have HOW := Lib.hid ow
        have HOAT := Lib.hid oat
        have HZA := Lib.hid zA
        have HBO := Lib.hid hbo
        clear hext hli hli2 e0 hnm X_0 X_f0 X_1 X_f1 R_0 R_f0 R_1 R_f1 A_0 A_1 A_f1 HX ow oat zA cw0 hbo
        go_wp2_with fail
        go_loopw [8] (fun k wr => ∃ k9 : Nat, 2 ≤ k9 ∧ k9 + 1 ≤ wi.size ∧ k = .int .i64 (k9 : Int) ∧ Hid (WSt (w.heap.size + 1) wo.heap.size wA nm ab an ac (varsL ((lets li).take (k9 - 2))) (maxV q0.1 (varsL ((lets li).take (k9 - 2)))) wr)) (fun k _ => 6 - (intOf k).toNat)
        case atStart => exact ⟨2, Nat.le_refl _, by omega, rfl, HWT0⟩
        case round =>
          clear HWT0
          obtain ⟨k9, hk2, hk3, rfl, HW⟩ := hrel
          obtain ⟨wk, rfl⟩ : ∃ W, W = wr := ⟨_, rfl⟩
          have cwk : wk.cell? ⟨gw, i, none⟩ = some (.string wi) := by
            obtain ⟨b, n, c, _, _, _, _, _, _, _, _, hpf, _⟩ := HW.out
            exact (hpf.cell (p := ⟨gw, i, none⟩) (by simp only []; omega) (by simp only []; omega)).trans cwA
          have hcap : varsL ((lets li).take (k9 - 2)) = varsL ((lets li).take (k9 - 2)) := rfl
          obtain ⟨vs0, hvs0⟩ : ∃ q, varsL ((lets li).take (k9 - 2)) = q := ⟨_, rfl⟩
          have hvsl : vs0.length ≤ 6 := by
            rw [← hvs0]
            refine Nat.le_trans (varsL_len _) ?_
            rw [List.length_take]; omega
          rw [hvs0] at HW
          have hwin : (i : Int) < (nw : Int) := by omega
          by_cases hk : k9 + 1 < wi.size
          · have hkI : (k9 : Int) < (wi.size : Int) - 1 := by omega
            obtain ⟨b0, hb0l⟩ : ∃ b0, li[k9]? = some b0 := ⟨_, List.getElem?_eq_getElem (by omega)⟩
            have HEX := Lib.hid (HEXT.out k9 b0 hb0l)
            have HVN : Hid (varsL ((lets li).take (k9 + 1 - 2)) = vs0 ++ varI b0) := Lib.hid (by
              rw [show k9 + 1 - 2 = (k9 - 2) + 1 by omega, varsL_snoc (lets_get hb0l hk2 (by omega)), hvs0])
            have HV0 : Hid (WSt (w.heap.size + 1) wo.heap.size wA nm ab an ac (vs0 ++ varTo b0 0) (maxV q0.1 (vs0 ++ varTo b0 0)) wk) := Lib.hid (by rw [varTo_zero, List.append_nil]; exact HW.out)
            clear hb0l hvs0 hcap HW
            go_wp2_with fail
            go_loopw [9] (fun v wi9 => ∃ v9 : Nat, v9 ≤ 4 ∧ v = .int .i64 (v9 : Int) ∧ Hid (WSt (w.heap.size + 1) wo.heap.size wA nm ab an ac (vs0 ++ varTo b0 v9) (maxV q0.1 (vs0 ++ varTo b0 v9)) wi9)) (fun v _ => 4 - (intOf v).toNat)
            case atStart => exact ⟨0, by omega, rfl, HV0⟩
            case round =>
              clear HV0 cwk
              obtain ⟨v9, hv4, rfl, HV⟩ := hrel
              obtain ⟨wv, rfl⟩ : ∃ W, W = wr := ⟨_, rfl⟩
              by_cases hv : v9 < 4
              · have hvI : (v9 : Int) < 4 := by omega
                obtain ⟨b, n, c, A_0, A_1, A_f1, X_0, X_f0, X_1, X_f1, ov, hpf, hsz⟩ := HV.out
                have cwv := (hpf.cell (p := ⟨gw, i, none⟩) (by simp only []; omega) (by simp only []; omega)).trans cwA
                have HST9 := Lib.hid (chV_letter b0 v9 hv)
                clear HV
                go_wp2_with fail
                have hx1 : (k9 : Int) ≤ (k9 : Int) + 1 := by omega
                have hx0 : (0 : Int) ≤ (k9 : Int) + 1 := by omega
                have hwk : IntKind.i64.wrap ((k9 : Int) + 1) = (k9 : Int) + 1 := IntWalk.i64_in _ (by omega)
                have htn : ((k9 : Int) + 1).toNat = k9 + 1 := by omega
                have hx2 : (k9 : Int) + 1 ≤ (wi.size : Int) := by omega
                have hex := HEX.out
                obtain ⟨mc, hmc⟩ : ∃ q, maxV q0.1 (vs0 ++ varTo b0 v9) = q := ⟨_, rfl⟩
                rw [hmc] at X_0
                have hvl : (varTo b0 v9).length ≤ 4 := by
                  have h9 : (varI b0).length ≤ 1 := by
                    unfold varI
                    split
                    · simp
                    · split
                      · simp
                      · split
                        · simp
                        · split <;> simp
                  have := List.length_filter_le (fun v => decide (v < ((v9 : Nat) : Int))) (varI b0)
                  unfold varTo; omega
                by_cases hcmp : chV (v9 : Int) = [b0]
                · have hce : (chV (v9 : Int) == [b0]) = true := by rw [beq_iff_eq]; exact hcmp
                  have hdr : Below wv.heap.size wv wv.drew := (Below.refl _ _).drew
                  refine wp_region_noPanic ?_
                  refine wp_region_held_drew (S := (fun W => W.cell? ⟨gw, i, none⟩ = some (.string wi))) (by kernel_rfl) ?hSt (fun hHeld => ?_)
                  case hSt => exact cwv
                  refine wpAnyH_take (i := 0) (v := ?v0t) rfl (by kernel_rfl) (by kernel_rfl) (by kernel_rfl) (fun _ _ _ h => h) (Or.inl ⟨by rfl, ?hy0t⟩) (by assumption) ?rest0t
                  case hy0t => intro w hSw; (try dsimp only at hSw); go_simp; (try with_reducible rfl)
                  try simp only [Act.put, lgA, lgB, lgC, lgD, lgE, lgF]
                  refine wpAnyH_take (i := 2) (v := ?v2t) rfl (by kernel_rfl) (by kernel_rfl) (by kernel_rfl) (fun _ _ _ h => h) (Or.inl ⟨by rfl, ?hy2t⟩) (by assumption) ?rest2t
                  case hy2t => intro w hSw; (try dsimp only at hSw); go_simp; (try with_reducible rfl)
                  try simp only [Act.put, lgA, lgB, lgC, lgD, lgE, lgF]
                  refine wpAnyH_take (i := 3) (v := ?v3t) rfl (by kernel_rfl) (by kernel_rfl) (by kernel_rfl) (fun _ _ _ h => h) (Or.inl ⟨by rfl, ?hy3t⟩) (by assumption) ?rest3t
                  case hy3t => intro w hSw; (try dsimp only at hSw); go_simp; (try with_reducible rfl)
                  try simp only [Act.put, lgA, lgB, lgC, lgD, lgE, lgF]
                  refine wpAnyH_take (i := 4) (v := ?v4t) rfl (by kernel_rfl) (by kernel_rfl) (by kernel_rfl) (fun _ _ _ h => h) (Or.inl ⟨by rfl, ?hy4t⟩) (by assumption) ?rest4t
                  case hy4t => intro w hSw; (try dsimp only at hSw); go_simp; (try with_reducible rfl)
                  try simp only [Act.put, lgA, lgB, lgC, lgD, lgE, lgF]
                  refine wpAnyH_take (i := 5) (v := ?v5t) rfl (by kernel_rfl) (by kernel_rfl) (by kernel_rfl) (fun _ _ _ h => h) (Or.inl ⟨by rfl, ?hy5t⟩) (by assumption) ?rest5t
                  case hy5t => intro w hSw; (try dsimp only at hSw); go_simp; (try with_reducible rfl)
                  try simp only [Act.put, lgA, lgB, lgC, lgD, lgE, lgF]
                  refine wpAnyH_take (i := 6) (v := ?v6t) rfl (by kernel_rfl) (by kernel_rfl) (by kernel_rfl) (fun _ _ _ h => h) (Or.inl ⟨by rfl, ?hy6t⟩) (by assumption) ?rest6t
                  case hy6t => intro w hSw; (try dsimp only at hSw); go_simp; (try with_reducible rfl)
                  try simp only [Act.put, lgA, lgB, lgC, lgD, lgE, lgF]
                  refine wpAnyH_take (i := 7) (v := ?v7t) rfl (by kernel_rfl) (by kernel_rfl) (by kernel_rfl) (fun _ _ _ h => h) (Or.inl ⟨by rfl, ?hy7t⟩) (by assumption) ?rest7t
                  case hy7t => intro w hSw; (try dsimp only at hSw); go_simp; (try with_reducible rfl)
                  try simp only [Act.put, lgA, lgB, lgC, lgD, lgE, lgF]
                  refine wpAnyH_take (i := 8) (v := ?v8t) rfl (by kernel_rfl) (by kernel_rfl) (by kernel_rfl) (fun _ _ _ h => h) (Or.inl ⟨by rfl, ?hy8t⟩) (by assumption) ?rest8t
                  case hy8t => intro w hSw; (try dsimp only at hSw); go_simp; (try with_reducible rfl)
                  try simp only [Act.put, lgA, lgB, lgC, lgD, lgE, lgF]
                  refine wpAnyH_take (i := 9) (v := .string (bs [b0])) rfl (by kernel_rfl) (by kernel_rfl) (by kernel_rfl) (fun _ _ _ h => h) (Or.inl ⟨by rfl, ?hy9t⟩) (by assumption) ?rest9t
                  case hy9t => intro w hSw; (try dsimp only at hSw); go_simp; (try with_reducible rfl)
                  try simp only [Act.put, lgA, lgB, lgC, lgD, lgE, lgF]
                  refine wpAnyH_ready (rs := [1]) (by kernel_rfl) (by simp) ?_
                  refine AllReadyH.cons rfl (fun K9 hK9 => ?_) AllReadyH.nil
                  go_simp
                  refine (varName_spec _ _).mono ?_
                  rintro e wD ⟨rfl, e9⟩
                  have zD : Below wv.heap.size wv wD := by rw [← e9]; exact hdr
                  have sD : wD.heap.size = wv.heap.size := by rw [← e9]; rfl
                  clear e9
                  have cwD := bxc zD cwv
                  refine hK9.out _ _ cwD (fun hHeld => ?_)
                  clear hK9 K9
                  try simp only [Act.put, lgA, lgB, lgC, lgD, lgE, lgF]
                  refine wpAnyH_take (i := 10) (v := .bool true) rfl (by kernel_rfl) (by kernel_rfl) (by kernel_rfl) (fun _ _ _ h => h) (Or.inl ⟨by rfl, ?hy10t⟩) (by assumption) ?rest10t
                  case hy10t => intro w hSw; (try dsimp only at hSw); go_simp; (first | done | rfl | simp [hce])
                  try simp only [Act.put, lgA, lgB, lgC, lgD, lgE, lgF]
                  refine wpAnyH_done (by kernel_rfl) ?_ _
                  refine NoPanic.normal ?_
                  replace A_0 := bxc zD A_0
                  replace A_1 := bxc zD A_1
                  replace X_0 := bxc zD X_0
                  replace X_1 := bxc zD X_1
                  replace A_f1 := bxf zD A_f1
                  replace X_f0 := bxf zD X_f0
                  replace X_f1 := bxf zD X_f1
                  replace ov := ov.below zD (Nat.le_refl _)
                  replace hpf := hpf.trans (PF.of (X := w.heap.size + 1) (hi := wo.heap.size) zD (by omega))
                  rw [← sD] at ov
                  have hszD : wo.heap.size + 1 ≤ wD.heap.size := by omega
                  clear zD sD cwD hdr cwv
                  rw [if_pos hcmp] at HST9
                  obtain ⟨na, nn, nc, wn, hrn, on_, hbn, hzn⟩ := own_num 32 ov (r := (v9 : Int)) ⟨by omega, by omega⟩ (Nat.le_refl _) hszD (by rw [List.length_append]; omega) rfl
                  have sn := hbn.size
                  replace A_0 := bxc hbn A_0
                  have a1o := A_1
                  replace A_1 := bxc hbn A_1
                  replace A_f1 := bxf hbn A_f1
                  have xo : wD.cell? ⟨w.heap.size + 1, 0, none⟩ = some (.int .i64 mc) := X_0
                  replace X_0 := bxc hbn X_0
                  replace X_f0 := bxf hbn X_f0
                  replace X_1 := bxc hbn X_1
                  replace X_f1 := bxf hbn X_f1
                  have hpn := hpf.trans (PF.of (X := w.heap.size + 1) (hi := wo.heap.size) hbn (by omega))
                  clear hpf ov hbn xo
                  go_wp2_with (at_builtin; refine wpList_app_run hrn rfl rfl rfl rfl rfl ?_)
                  have hAX : w.heap.size + 1 < wo.heap.size := by omega
                  have HN : Hid (WSt (w.heap.size + 1) wo.heap.size wA nm ab an ac (vs0 ++ varTo b0 (v9 + 1)) (maxV q0.1 (vs0 ++ varTo b0 (v9 + 1))) ((wn.setCell ⟨wo.heap.size, 1, none⟩ (.slice na nn nc)).setCell ⟨w.heap.size + 1, 0, none⟩ (.int .i64 (max mc ((v9 : Int) + 1))))) := Lib.hid (by
                    rw [HST9.out, ← List.append_assoc, maxV_snoc, hmc]
                    have x0 : (wn.setCell ⟨wo.heap.size, 1, none⟩ (.slice na nn nc)).cell? ⟨w.heap.size + 1, 0, none⟩ = some (.int .i64 mc) := (World.cell?_of_block (a := ⟨w.heap.size + 1, 0, none⟩) (Below.heap_setCell _ _ _ _ (by simp only []; omega))).trans X_0
                    have x1 : (wn.setCell ⟨wo.heap.size, 1, none⟩ (.slice na nn nc)).cell? ⟨w.heap.size + 1, 1, none⟩ = some (.slice ab an ac) := (World.cell?_of_block (a := ⟨w.heap.size + 1, 1, none⟩) (Below.heap_setCell _ _ _ _ (by simp only []; omega))).trans X_1
                    have xf0 : (wn.setCell ⟨wo.heap.size, 1, none⟩ (.slice na nn nc)).frozen? ⟨w.heap.size + 1, 0, none⟩ = false := (World.frozen?_of_block (a := ⟨w.heap.size + 1, 0, none⟩) (Below.heap_setCell _ _ _ _ (by simp only []; omega))).trans X_f0
                    have xf1 : (wn.setCell ⟨wo.heap.size, 1, none⟩ (.slice na nn nc)).frozen? ⟨w.heap.size + 1, 1, none⟩ = false := (World.frozen?_of_block (a := ⟨w.heap.size + 1, 1, none⟩) (Below.heap_setCell _ _ _ _ (by simp only []; omega))).trans X_f1
                    refine ⟨na, nn, nc, (World.cell?_of_block (a := ⟨wo.heap.size, 0, none⟩) (Below.heap_setCell _ _ _ _ (by simp only []; omega))).trans (by simp [go_sem, A_0]), (World.cell?_of_block (a := ⟨wo.heap.size, 1, none⟩) (Below.heap_setCell _ _ _ _ (by simp only []; omega))).trans (by simp [go_sem, A_1]), (World.frozen?_of_block (a := ⟨wo.heap.size, 1, none⟩) (Below.heap_setCell _ _ _ _ (by simp only []; omega))).trans (by simp [go_sem, A_f1]), by simp [go_sem, x0], by simp [go_sem, xf0], by simp [go_sem, x1], by simp [go_sem, xf1], ?_, ?_, ?_⟩
                    · exact (Own.setOut (Own.setOut on_ rfl (by simp only []; omega)) rfl (by simp only []; omega)).mono (Nat.le_refl _) (by simp [World.setCell])
                    · exact (hpn.set (p := ⟨wo.heap.size, 1, none⟩) (.inr (Nat.le_refl _)) _).set (p := ⟨w.heap.size + 1, 0, none⟩) (.inl rfl) _
                    · simp [World.setCell]; omega)
                  clear A_0 A_1 A_f1 X_0 X_f0 X_1 X_f1 hpn on_ a1o
                  go_roundw
                  case rel => exact ⟨v9 + 1, by omega, by go_num, by
                    first
                      | exact HN
                      | (have hmx : (if mc < (v9 : Int) + 1 then (v9 : Int) + 1 else mc) = max mc ((v9 : Int) + 1) := by (split <;> omega)
                         rw [hmx]; exact HN)⟩
                  case measure => simp [intOf]; omega
                · have hce : (chV (v9 : Int) == [b0]) = false := by rw [beq_eq_false_iff_ne]; exact hcmp
                  have hdr : Below wv.heap.size wv wv.drew := (Below.refl _ _).drew
                  refine wp_region_noPanic ?_
                  refine wp_region_held_drew (S := (fun W => W.cell? ⟨gw, i, none⟩ = some (.string wi))) (by kernel_rfl) ?hSf (fun hHeld => ?_)
                  case hSf => exact cwv
                  refine wpAnyH_take (i := 0) (v := ?v0f) rfl (by kernel_rfl) (by kernel_rfl) (by kernel_rfl) (fun _ _ _ h => h) (Or.inl ⟨by rfl, ?hy0f⟩) (by assumption) ?rest0f
                  case hy0f => intro w hSw; (try dsimp only at hSw); go_simp; (try with_reducible rfl)
                  try simp only [Act.put, lgA, lgB, lgC, lgD, lgE, lgF]
                  refine wpAnyH_take (i := 2) (v := ?v2f) rfl (by kernel_rfl) (by kernel_rfl) (by kernel_rfl) (fun _ _ _ h => h) (Or.inl ⟨by rfl, ?hy2f⟩) (by assumption) ?rest2f
                  case hy2f => intro w hSw; (try dsimp only at hSw); go_simp; (try with_reducible rfl)
                  try simp only [Act.put, lgA, lgB, lgC, lgD, lgE, lgF]
                  refine wpAnyH_take (i := 3) (v := ?v3f) rfl (by kernel_rfl) (by kernel_rfl) (by kernel_rfl) (fun _ _ _ h => h) (Or.inl ⟨by rfl, ?hy3f⟩) (by assumption) ?rest3f
                  case hy3f => intro w hSw; (try dsimp only at hSw); go_simp; (try with_reducible rfl)
                  try simp only [Act.put, lgA, lgB, lgC, lgD, lgE, lgF]
                  refine wpAnyH_take (i := 4) (v := ?v4f) rfl (by kernel_rfl) (by kernel_rfl) (by kernel_rfl) (fun _ _ _ h => h) (Or.inl ⟨by rfl, ?hy4f⟩) (by assumption) ?rest4f
                  case hy4f => intro w hSw; (try dsimp only at hSw); go_simp; (try with_reducible rfl)
                  try simp only [Act.put, lgA, lgB, lgC, lgD, lgE, lgF]
                  refine wpAnyH_take (i := 5) (v := ?v5f) rfl (by kernel_rfl) (by kernel_rfl) (by kernel_rfl) (fun _ _ _ h => h) (Or.inl ⟨by rfl, ?hy5f⟩) (by assumption) ?rest5f
                  case hy5f => intro w hSw; (try dsimp only at hSw); go_simp; (try with_reducible rfl)
                  try simp only [Act.put, lgA, lgB, lgC, lgD, lgE, lgF]
                  refine wpAnyH_take (i := 6) (v := ?v6f) rfl (by kernel_rfl) (by kernel_rfl) (by kernel_rfl) (fun _ _ _ h => h) (Or.inl ⟨by rfl, ?hy6f⟩) (by assumption) ?rest6f
                  case hy6f => intro w hSw; (try dsimp only at hSw); go_simp; (try with_reducible rfl)
                  try simp only [Act.put, lgA, lgB, lgC, lgD, lgE, lgF]
                  refine wpAnyH_take (i := 7) (v := ?v7f) rfl (by kernel_rfl) (by kernel_rfl) (by kernel_rfl) (fun _ _ _ h => h) (Or.inl ⟨by rfl, ?hy7f⟩) (by assumption) ?rest7f
                  case hy7f => intro w hSw; (try dsimp only at hSw); go_simp; (try with_reducible rfl)
                  try simp only [Act.put, lgA, lgB, lgC, lgD, lgE, lgF]
                  refine wpAnyH_take (i := 8) (v := ?v8f) rfl (by kernel_rfl) (by kernel_rfl) (by kernel_rfl) (fun _ _ _ h => h) (Or.inl ⟨by rfl, ?hy8f⟩) (by assumption) ?rest8f
                  case hy8f => intro w hSw; (try dsimp only at hSw); go_simp; (try with_reducible rfl)
                  try simp only [Act.put, lgA, lgB, lgC, lgD, lgE, lgF]
                  refine wpAnyH_take (i := 9) (v := .string (bs [b0])) rfl (by kernel_rfl) (by kernel_rfl) (by kernel_rfl) (fun _ _ _ h => h) (Or.inl ⟨by rfl, ?hy9f⟩) (by assumption) ?rest9f
                  case hy9f => intro w hSw; (try dsimp only at hSw); go_simp; (try with_reducible rfl)
                  try simp only [Act.put, lgA, lgB, lgC, lgD, lgE, lgF]
                  refine wpAnyH_ready (rs := [1]) (by kernel_rfl) (by simp) ?_
                  refine AllReadyH.cons rfl (fun K9 hK9 => ?_) AllReadyH.nil
                  go_simp
                  refine (varName_spec _ _).mono ?_
                  rintro e wD ⟨rfl, e9⟩
                  have zD : Below wv.heap.size wv wD := by rw [← e9]; exact hdr
                  have sD : wD.heap.size = wv.heap.size := by rw [← e9]; rfl
                  clear e9
                  have cwD := bxc zD cwv
                  refine hK9.out _ _ cwD (fun hHeld => ?_)
                  clear hK9 K9
                  try simp only [Act.put, lgA, lgB, lgC, lgD, lgE, lgF]
                  refine wpAnyH_take (i := 10) (v := .bool false) rfl (by kernel_rfl) (by kernel_rfl) (by kernel_rfl) (fun _ _ _ h => h) (Or.inl ⟨by rfl, ?hy10f⟩) (by assumption) ?rest10f
                  case hy10f => intro w hSw; (try dsimp only at hSw); go_simp; (first | done | rfl | simp [hce])
                  try simp only [Act.put, lgA, lgB, lgC, lgD, lgE, lgF]
                  refine wpAnyH_done (by kernel_rfl) ?_ _
                  refine NoPanic.normal ?_
                  replace A_0 := bxc zD A_0
                  replace A_1 := bxc zD A_1
                  replace X_0 := bxc zD X_0
                  replace X_1 := bxc zD X_1
                  replace A_f1 := bxf zD A_f1
                  replace X_f0 := bxf zD X_f0
                  replace X_f1 := bxf zD X_f1
                  replace ov := ov.below zD (Nat.le_refl _)
                  replace hpf := hpf.trans (PF.of (X := w.heap.size + 1) (hi := wo.heap.size) zD (by omega))
                  rw [← sD] at ov
                  have hszD : wo.heap.size + 1 ≤ wD.heap.size := by omega
                  clear zD sD cwD hdr cwv
                  rw [if_neg hcmp, List.append_nil] at HST9
                  have HN : Hid (WSt (w.heap.size + 1) wo.heap.size wA nm ab an ac (vs0 ++ varTo b0 (v9 + 1)) (maxV q0.1 (vs0 ++ varTo b0 (v9 + 1))) wD) := Lib.hid (by
                  rw [HST9.out, hmc]
                  exact ⟨b, n, c, A_0, A_1, A_f1, X_0, X_f0, X_1, X_f1, ov, hpf, hszD⟩)
                  clear A_0 A_1 A_f1 X_0 X_f0 X_1 X_f1 ov hpf
                  go_wp2_with fail
                  go_roundw
                  case rel => exact ⟨v9 + 1, by omega, by go_num, HN⟩
                  case measure => simp [intOf]; omega
              · obtain rfl : v9 = 4 := by omega
                have HN : Hid (WSt (w.heap.size + 1) wo.heap.size wA nm ab an ac (varsL ((lets li).take (k9 + 1 - 2))) (maxV q0.1 (varsL ((lets li).take (k9 + 1 - 2)))) wv) := Lib.hid (by
                  rw [HVN.out, ← varTo_all b0]; exact HV.out)
                clear HV
                go_wp2_with fail
                go_roundw
                case rel => exact ⟨k9 + 1, by omega, by omega, by go_num, HN⟩
                case measure => simp [intOf]; omega
          · have hke : k9 + 1 = wi.size := by omega
            have hkI : ¬ (k9 : Int) < (wi.size : Int) - 1 := by omega
            obtain ⟨b, n, c, A_0, A_1, A_f1, X_0, X_f0, X_1, X_f1, ov, hpf, hsz⟩ := HW.out
            have hlt9 : (lets li).take (k9 - 2) = lets li := List.take_of_length_le (by rw [lets_len li (by omega)]; omega)
            rw [hlt9] at hvs0
            have oak := hpf.own (HOAT.out.below HZA.out (Nat.le_refl _)) (Nat.le_refl _) (.inl (by omega))
            have owk := hpf.own (HOW.out.below HZA.out (by omega)) (by omega) (.inl (by omega))
            have r0 := (hpf.cell (p := ⟨w.heap.size, 0, none⟩) (by simp only []; omega) (by simp only []; omega)).trans ((HZA.out.cell (p := ⟨w.heap.size, 0, none⟩) (by simp only []; omega)).trans HRO.out.1)
            have rf0 := (hpf.frozen (p := ⟨w.heap.size, 0, none⟩) (by simp only []; omega) (by simp only []; omega)).trans ((HZA.out.frozen (p := ⟨w.heap.size, 0, none⟩) (by simp only []; omega)).trans HRO.out.2.1)
            have r1 := (hpf.cell (p := ⟨w.heap.size, 1, none⟩) (by simp only []; omega) (by simp only []; omega)).trans ((HZA.out.cell (p := ⟨w.heap.size, 1, none⟩) (by simp only []; omega)).trans HRO.out.2.2.1)
            have rf1 := (hpf.frozen (p := ⟨w.heap.size, 1, none⟩) (by simp only []; omega) (by simp only []; omega)).trans ((HZA.out.frozen (p := ⟨w.heap.size, 1, none⟩) (by simp only []; omega)).trans HRO.out.2.2.2)
            have hbk : Below w.heap.size w wk := HBO.out.trans ((HZA.out.mono (by omega)).trans (hpf.below (C := w.heap.size) (by omega) (by omega)))
            have hnms : nm.size ≤ 9223372036854775807 := by rw [← HNM.out, bs_size, List.length_take]; omega
            have oAt : Own oA (wo.heap.size + 1) wk.heap.size wk [.string nm, .slice b n c] (nm, vs0) := oA_mk (x := (nm, vs0)) hnms ov (Nat.le_refl _) (Nat.le_refl _)
            obtain ⟨na, nn, nc, wn, hrn, on_, hzn, hzs⟩ := own_atom 27 oak oAt (Nat.le_refl _) (by omega) (by omega) hsz (by omega) rfl
            have HRQ : Hid (rawQ ((cutL l).take (i + 1)) = (maxV q0.1 vs0, q0.2 ++ [(nm, vs0)])) := Lib.hid (by
              rw [rawQ_snoc HLI.out, hq0]
              show (maxV q0.1 (varsL (lets li)), q0.2 ++ [(bs (li.take 1), varsL (lets li))]) = _
              rw [hvs0, HNM.out])
            have HAL2 : Hid (((cutL l).take (i + 1)).all lenW = true) := Lib.hid (by
              rw [List.take_add_one, HLI.out, List.all_append, HALL.out]
              simp only [Option.toList, List.all_cons, List.all_nil, Bool.and_true, Bool.true_and, lenW, Bool.and_eq_true, decide_eq_true_eq]
              omega)
            obtain ⟨mc, hmc⟩ : ∃ q, maxV q0.1 vs0 = q := ⟨_, rfl⟩
            rw [hmc] at X_0 HRQ
            have y0 := txc hzn X_0
            have yf0 := txf hzn X_f0
            have y1 := txc hzn X_1
            have yf1 := txf hzn X_f1
            have s0 := txc hzn r0
            have sf0 := txf hzn rf0
            have s1 := txc hzn r1
            have sf1 := txf hzn rf1
            have own2 := owk.turn hzn (.inl (Nat.le_refl _))
            have hbn : Below w.heap.size w wn := hbk.trans ((hzn.below (by omega)).mono (by omega))
            have zS : Below (w.heap.size + 1) wn (wn.setCell ⟨w.heap.size + 1, 1, none⟩ (.slice na nn nc)) := Below.setCell (Below.refl _ _) (by simp only []; omega) _
            have HOS : Hid (OSt w (w.heap.size + 1) lo1 hi1 (some ⟨gw, 0, none⟩) nw cw ws (rawQ ((cutL l).take (i + 1))) (wn.setCell ⟨w.heap.size + 1, 1, none⟩ (.slice na nn nc))) := Lib.hid (by
              rw [HRQ.out]
              exact ⟨na, nn, nc, (zS.cell (p := ⟨w.heap.size, 0, none⟩) (by simp only []; omega)).trans s0, (zS.frozen (p := ⟨w.heap.size, 0, none⟩) (by simp only []; omega)).trans sf0, (zS.cell (p := ⟨w.heap.size, 1, none⟩) (by simp only []; omega)).trans s1, (zS.frozen (p := ⟨w.heap.size, 1, none⟩) (by simp only []; omega)).trans sf1, by simp [go_sem, y0], by simp [go_sem, yf0], by simp [go_sem, y1], by simp [go_sem, yf1], own_off own2 rfl (by simp only []; omega), (own_off on_ rfl (by simp only []; omega)).mono (Nat.le_refl _) (by simp [World.setCell]), hbn.trans (zS.mono (by omega)), by simp [World.setCell]; omega⟩)
            clear y0 s0 sf0 s1 sf1 own2 hbn zS on_ oAt oak owk r0 rf0 r1 rf1 ov hpf hvs0 hlt9 HW
            go_wp2_with (at_builtin; refine wpList_app_run hrn rfl rfl rfl rfl rfl ?_)
            go_roundw
            case rel => exact ⟨i + 1, by omega, by omega, by go_num, HAL2, HOS⟩
            case measure => simp [intOf]; omega
      · have HPN : P = none := by
          rw [HP.out, if_neg]
          intro h9
          rw [Bool.and_eq_true] at h9
          have h8 := List.all_eq_true.1 h9.1 wi.data.toList (List.mem_of_getElem? (i := i) (by rw [List.getElem?_take, if_pos (by omega)]; exact hli))
          simp only [lenW, Bool.and_eq_true, decide_eq_true_eq] at h8
          omega
        subst HPN
        have hbad : wi.size < 4 ∨ 6 < wi.size := by omega
        have hb4 : ((wi.size : Int) < 4) ∨ ¬ ((wi.size : Int) < 4) := by omega
        rcases hb4 with hb4 | hb4
        · go_wp2_with fail
          refine bodyPost_ret (v := .tuple #[.agg #[.int .i64 0, .slice none 0 0], .bool false]) (by simp [results, Tryz.results81, go_sem, R_0, R_1, R_f0, R_f1]) rfl ⟨0, none, 0, 0, rfl, ?_, ?_⟩
          · exact oQ_mk (x := (0, [])) (show I64 0 by constructor <;> decide) (own_nil_S (B := w.heap.size)) (Nat.le_refl _) (by have := hbo.size; simp [World.setCell]; omega)
          · refine hbo.trans ?_
            repeat (refine Below.setCell ?_ (by simp only []; omega) _)
            exact Below.refl _ _
        · have hb6 : (6 : Int) < (wi.size : Int) := by omega
          go_wp2_with fail
          refine bodyPost_ret (v := .tuple #[.agg #[.int .i64 0, .slice none 0 0], .bool false]) (by simp [results, Tryz.results81, go_sem, R_0, R_1, R_f0, R_f1]) rfl ⟨0, none, 0, 0, rfl, ?_, ?_⟩
          · exact oQ_mk (x := (0, [])) (show I64 0 by constructor <;> decide) (own_nil_S (B := w.heap.size)) (Nat.le_refl _) (by have := hbo.size; simp [World.setCell]; omega)
          · refine hbo.trans ?_
            repeat (refine Below.setCell ?_ (by simp only []; omega) _)
            exact Below.refl _ _
    · have hti : (cutL l).take i = (cutL l).take 5 := by
        rcases (by omega : i = 5 ∨ i = nw ∧ nw ≤ 5) with rfl | ⟨rfl, h5⟩
        · rfl
        · rw [List.take_of_length_le (by omega), List.take_of_length_le (by omega)]
      rw [hti] at hq0
      have hall5 : ((cutL l).take 5).all lenW = true := by rw [← hti]; exact HALL.out
      have HPQ : Hid (P = if validQ q0 && decide (fmtQ q0 = l) then some q0 else none) := Lib.hid (by rw [HP.out, hall5, hq0, Bool.true_and])
      have hqi : I64 q0.1 := ⟨by omega, by omega⟩
      have hexit : ¬ ((i : Int) < (nw : Int)) ∨ ((i : Int) < (nw : Int) ∧ ¬ ((i : Int) ≤ 4)) := by omega
      clear hq0 hti hall5 HP HALL HWS
      obtain ⟨hi6, hhi6⟩ : ∃ q, q = wo.heap.size := ⟨_, rfl⟩
      rw [← hhi6] at oat
      clear ow X_f0 X_f1
      rcases hexit with hexit | ⟨hex1, hexit⟩
      · skip
        go_wp2_with fail
        refine (validQ_spec [.int .i64 q0.1, .slice ab an ac] q0 _ (rQ_mk hqi (oat.rd reads_As))).mono ?_
        rintro e w5 ⟨rfl, z5⟩
        have s6 := z5.size
        have hb6 := on hbo z5
        replace R_0 := bxc z5 R_0
        replace R_f0 := bxf z5 R_f0
        replace R_1 := bxc z5 R_1
        replace R_f1 := bxf z5 R_f1
        replace X_0 := bxc z5 X_0
        replace X_1 := bxc z5 X_1
        replace oat := oat.below z5 (by omega)
        cases hv : validQ q0 with
        | false =>
          have hPn : P = none := by rw [HPQ.out, hv]; rfl
          subst hPn
          go_wp2_with fail
          refine bodyPost_ret (v := .tuple #[.agg #[.int .i64 0, .slice none 0 0], .bool false]) (by simp [results, Tryz.results81, go_sem, R_0, R_1, R_f0, R_f1]) rfl ⟨0, none, 0, 0, rfl, ?_, ?_⟩
          · exact oQ_mk (x := (0, [])) (show I64 0 by constructor <;> decide) (own_nil_S (B := w.heap.size)) (Nat.le_refl _) (by have := hb6.size; simp [World.setCell]; omega)
          · refine hb6.trans ?_
            repeat (refine Below.setCell ?_ (by simp only []; omega) _)
            exact Below.refl _ _
        | true =>
          go_wp2_with fail
          refine (fmtQ_spec [.int .i64 q0.1, .slice ab an ac] q0 _ (rQ_mk hqi (oat.rd reads_As))).mono ?_
          rintro e w7 ⟨rfl, z7⟩
          have s8 := z7.size
          have hb8 := on hb6 z7
          replace R_0 := bxc z7 R_0
          replace R_f0 := bxf z7 R_f0
          replace R_1 := bxc z7 R_1
          replace R_f1 := bxf z7 R_f1
          replace X_0 := bxc z7 X_0
          replace X_1 := bxc z7 X_1
          replace oat := oat.below z7 (by omega)
          obtain ⟨F, hF⟩ : ∃ q, fmtQ q0 = q := ⟨_, rfl⟩
          rw [hv, hF] at HPQ
          rw [hF]
          clear hF
          by_cases hf : F = l
          · have hPs : P = some q0 := by rw [HPQ.out, if_pos (by simp [hf])]
            subst hPs
            subst hf
            go_wp2_with fail
            refine bodyPost_ret (v := .tuple #[.agg #[.int .i64 q0.1, .slice ab an ac], .bool true]) (by simp [results, Tryz.results81, go_sem, R_0, R_1, R_f0, R_f1]) rfl ⟨q0.1, ab, an, ac, rfl, ?_, ?_⟩
            · refine Own.mono (lo := hi1) (hi := hi6) ?_ (by omega) (by simp [World.setCell]; omega)
              repeat (refine own_off ?_ rfl (by simp only []; omega))
              exact oQ_mk (x := q0) hqi oat (Nat.le_refl _) (Nat.le_refl _)
            · refine hb8.trans ?_
              repeat (refine Below.setCell ?_ (by simp only []; omega) _)
              exact Below.refl _ _
          · have hPn : P = none := by rw [HPQ.out, if_neg (by simp [hf])]
            subst hPn
            have hfe : (F == l) = false := by rw [beq_eq_false_iff_ne]; exact hf
            go_wp2_with fail
            refine bodyPost_ret (v := .tuple #[.agg #[.int .i64 0, .slice none 0 0], .bool false]) (by simp [results, Tryz.results81, go_sem, R_0, R_1, R_f0, R_f1]) rfl ⟨0, none, 0, 0, rfl, ?_, ?_⟩
            · exact oQ_mk (x := (0, [])) (show I64 0 by constructor <;> decide) (own_nil_S (B := w.heap.size)) (Nat.le_refl _) (by have := hb8.size; simp [World.setCell]; omega)
            · refine hb8.trans ?_
              repeat (refine Below.setCell ?_ (by simp only []; omega) _)
              exact Below.refl _ _
      · skip
        go_wp2_with fail
        refine (validQ_spec [.int .i64 q0.1, .slice ab an ac] q0 _ (rQ_mk hqi (oat.rd reads_As))).mono ?_
        rintro e w9 ⟨rfl, z9⟩
        have s10 := z9.size
        have hb10 := on hbo z9
        replace R_0 := bxc z9 R_0
        replace R_f0 := bxf z9 R_f0
        replace R_1 := bxc z9 R_1
        replace R_f1 := bxf z9 R_f1
        replace X_0 := bxc z9 X_0
        replace X_1 := bxc z9 X_1
        replace oat := oat.below z9 (by omega)
        cases hv : validQ q0 with
        | false =>
          have hPn : P = none := by rw [HPQ.out, hv]; rfl
          subst hPn
          go_wp2_with fail
          refine bodyPost_ret (v := .tuple #[.agg #[.int .i64 0, .slice none 0 0], .bool false]) (by simp [results, Tryz.results81, go_sem, R_0, R_1, R_f0, R_f1]) rfl ⟨0, none, 0, 0, rfl, ?_, ?_⟩
          · exact oQ_mk (x := (0, [])) (show I64 0 by constructor <;> decide) (own_nil_S (B := w.heap.size)) (Nat.le_refl _) (by have := hb10.size; simp [World.setCell]; omega)
          · refine hb10.trans ?_
            repeat (refine Below.setCell ?_ (by simp only []; omega) _)
            exact Below.refl _ _
        | true =>
          go_wp2_with fail
          refine (fmtQ_spec [.int .i64 q0.1, .slice ab an ac] q0 _ (rQ_mk hqi (oat.rd reads_As))).mono ?_
          rintro e w11 ⟨rfl, z11⟩
          have s12 := z11.size
          have hb12 := on hb10 z11
          replace R_0 := bxc z11 R_0
          replace R_f0 := bxf z11 R_f0
          replace R_1 := bxc z11 R_1
          replace R_f1 := bxf z11 R_f1
          replace X_0 := bxc z11 X_0
          replace X_1 := bxc z11 X_1
          replace oat := oat.below z11 (by omega)
          obtain ⟨F, hF⟩ : ∃ q, fmtQ q0 = q := ⟨_, rfl⟩
          rw [hv, hF] at HPQ
          rw [hF]
          clear hF
          by_cases hf : F = l
          · have hPs : P = some q0 := by rw [HPQ.out, if_pos (by simp [hf])]
            subst hPs
            subst hf
            go_wp2_with fail
            refine bodyPost_ret (v := .tuple #[.agg #[.int .i64 q0.1, .slice ab an ac], .bool true]) (by simp [results, Tryz.results81, go_sem, R_0, R_1, R_f0, R_f1]) rfl ⟨q0.1, ab, an, ac, rfl, ?_, ?_⟩
            · refine Own.mono (lo := hi1) (hi := hi6) ?_ (by omega) (by simp [World.setCell]; omega)
              repeat (refine own_off ?_ rfl (by simp only []; omega))
              exact oQ_mk (x := q0) hqi oat (Nat.le_refl _) (Nat.le_refl _)
            · refine hb12.trans ?_
              repeat (refine Below.setCell ?_ (by simp only []; omega) _)
              exact Below.refl _ _
          · have hPn : P = none := by rw [HPQ.out, if_neg (by simp [hf])]
            subst hPn
            have hfe : (F == l) = false := by rw [beq_eq_false_iff_ne]; exact hf
            go_wp2_with fail
            refine bodyPost_ret (v := .tuple #[.agg #[.int .i64 0, .slice none 0 0], .bool false]) (by simp [results, Tryz.results81, go_sem, R_0, R_1, R_f0, R_f1]) rfl ⟨0, none, 0, 0, rfl, ?_, ?_⟩
            · exact oQ_mk (x := (0, [])) (show I64 0 by constructor <;> decide) (own_nil_S (B := w.heap.size)) (Nat.le_refl _) (by have := hb12.size; simp [World.setCell]; omega)
            · refine hb12.trans ?_
              repeat (refine Below.setCell ?_ (by simp only []; omega) _)
              exact Below.refl _ _

end Go.Proofs.YtpgfkjcekhifiaaGreat
