/- Texts joined for one claim: Draw13. -/
import Derived.Test.YtpgfkjcekhifiaaGreatQca800a7cfd
import Derived.Test.YtpgfkjcekhifiaaGreatQ53ae14c1bb
import Derived.Test.YtpgfkjcekhifiaaGreatQ94813783a4
import Derived.Test.YtpgfkjcekhifiaaGreatQ52736f1836
import Derived.Deep.RegionHeld3

namespace Go.Proofs.YtpgfkjcekhifiaaGreat

open Go.RowKit

set_option linter.unusedVariables false

set_option linter.unusedSimpArgs false

set_option synthInstance.maxSize 2000

set_option synthInstance.maxHeartbeats 400000

theorem oSl_len {α : Type} {t : TypeId} {o : OS α} {w : World} {cs : List Value} {xs : List α} {fp : List Nat} (h : (O.slice t o).rep w cs xs fp) : ∃ a cap, cs = [.slice a xs.length cap] := by
  obtain ⟨v, css, fps, rfl, rfl, h1, _⟩ := h
  obtain ⟨a, cap, rfl, _⟩ := own_form h1
  exact ⟨a, cap, rfl⟩

theorem own_atomT {lo hi h1 h2 : Nat} {W W1 : World} {v : Value} {ys : List DA} {cs : List Value} {r : DA} (ty : TypeId) (h : Own oAs lo hi W [v] ys) (hr : Own oA h1 h2 W cs r) (hh2 : h2 ≤ W.heap.size) (hlo : lo ≤ hi) (hh1 : hi ≤ h1) (hhi : h1 ≤ h2) (hn : ys.length ≤ 1000000) (hW1 : W1 = W.alloc (.cells cs.toArray 48)) :
    ∃ a n c w', (Builtin.append_ #[27, 27] ty #[v, .slice (some ⟨W.heap.size, 0, none⟩) 1 1]).run Tryz.prog W1 = .ok (.slice a n c) w' ∧ Own oAs lo w'.heap.size w' [.slice a n c] (ys ++ [r]) ∧ Turn lo hi W w' ∧ W.heap.size < w'.heap.size ∧ ∀ (p : Addr) (u : Value), hi ≤ p.block → p.block < h1 → Own oAs lo w'.heap.size (w'.setCell p u) [.slice a n c] (ys ++ [r]) := by
  have hrr := hr
  obtain ⟨fu, a2, a4, a9⟩ := h
  obtain ⟨fr, b2, b4, b9⟩ := hr
  obtain ⟨a, n, c, w', fu', hrun, c1, c2, c3, c4, ⟨c5, c6, c7⟩, c8⟩ := run_app_fp (W := W) (W1 := W1) Tryz.underlying27 infoAt rfl (by decide) (by decide) (o' := oA) rfl ty v ys cs r fu fr a2 a4 b2 b4 (fun k hk hk2 => by have := a9 k hk2; have := b9 k hk; omega) (by
    obtain ⟨q1, q2, q3, e⟩ := rA_form (hrr.rd reads_A)
    subst e
    intro z hz
    simp only [List.mem_cons, List.not_mem_nil, or_false] at hz
    rcases hz with rfl | rfl <;> rfl) (by omega) hW1
  have hr2 : ∀ k ∈ fu', lo ≤ k ∧ k < w'.heap.size := fun k hk => by
    rcases c3 k hk with h9 | h9 | h9
    · have := a9 k h9; omega
    · have := b9 k h9; omega
    · omega
  refine ⟨a, n, c, w', hrun, ⟨fu', c1, c2, hr2⟩, ⟨c5, c6, c7, by omega, fun k h1 hk => c8 k h1 (fun hk2 => by have := a9 k hk2; omega)⟩, c4, fun p u hp hp2 => ⟨fu', OS.frame oAs c1 (fun k hk => Below.heap_setCell _ _ _ _ (fun e => ?_)), c2, hr2⟩⟩
  rcases c3 k hk with h9 | h9 | h9
  · have := a9 k h9; omega
  · have := b9 k h9; omega
  · omega

theorem valid_shape {q : DQ} (h : validQ q = true) : (1 ≤ q.1 ∧ q.1 ≤ 4) ∧ (1 ≤ q.2.length ∧ q.2.length ≤ 4) ∧ ∀ a ∈ q.2, 1 ≤ a.2.length ∧ a.2.length ≤ 3 := by
  simp only [validQ, Bool.and_eq_true, betw, decide_eq_true_eq] at h
  have hf := validFrom_atoms h.2
  exact ⟨by omega, by omega, fun a ha => ⟨(hf a ha).2.1, (hf a ha).2.2.1⟩⟩

theorem oQ_open {lo hi : Nat} {w : World} {c0 : Int} {b : Option Addr} {n c : Nat} {x : DQ} (h : Own oQ lo hi w [.int .i64 c0, .slice b n c] x) : c0 = x.1 ∧ I64 c0 ∧ Own oAs lo hi w [.slice b n c] x.2 ∧ n = x.2.length := by
  obtain ⟨fp, ⟨c0a, c0b, p1, q1, e1, rfl, ⟨rfl, hi0, rfl⟩, hr⟩, hn, hb⟩ := h
  simp only [List.singleton_append, List.cons.injEq, Value.int.injEq, true_and] at e1
  obtain ⟨e1, e2⟩ := e1
  subst e1
  subst e2
  refine ⟨rfl, hi0, ⟨q1, hr, ?_, fun k hk => hb k (by simpa using hk)⟩, by obtain ⟨a, cap, e⟩ := oSl_len hr; simp only [List.cons.injEq, and_true, Value.slice.injEq] at e; exact e.2.1⟩
  simpa using hn

def AnyQ3 (w w' : World) (cb : Nat) (ba : Option Addr) (bn bc : Nat) (e : Ending) : Prop :=
  ∃ (c0 : Int) (b : Option Addr) (n c : Nat) (x : DQ), e = .returned (.agg #[.int .i64 c0, .slice b n c]) ∧ Own oQ w.heap.size w'.heap.size w' [.int .i64 c0, .slice b n c] x ∧ ((1 ≤ x.2.length ∧ x.2.length ≤ 5) ∧ ∀ a ∈ x.2, a.2.length ≤ 3) ∧ Cur w' cb ba bn bc ∧ Turn cb (cb + 1) w w'

def AnyQ (w w' : World) (cb : Nat) (ba : Option Addr) (bn bc : Nat) (e : Ending) : Prop :=
  ∃ (c0 : Int) (b : Option Addr) (n c : Nat) (x : DQ), e = .returned (.agg #[.int .i64 c0, .slice b n c]) ∧ Own oQ w.heap.size w'.heap.size w' [.int .i64 c0, .slice b n c] x ∧ (1 ≤ x.2.length ∧ x.2.length ≤ 5) ∧ Cur w' cb ba bn bc ∧ Turn cb (cb + 1) w w'

set_option maxRecDepth 100000 in
set_option maxHeartbeats 16000000 in
theorem l7Any_any3 (w : World) (cb : Nat) (ba : Option Addr) (bn bc : Nat) (HC : Cur w cb ba bn bc) (hcb : cb < w.heap.size) :
    Calls Tryz.prog 52 #[.pointer (some ⟨cb, 0, none⟩)] w fun e w' => AnyQ3 w w' cb ba bn bc e := by
  have ht0 : Turn cb (cb + 1) w w := (Kept.refl cb (cb + 1) w).turn
  go_enter Tryz.func52, Tryz.ntmps52
  obtain ⟨w1, hw1⟩ : ∃ W, W = w.alloc (.cells #[.int .i64 0, .slice none 0 0] 29) := ⟨_, rfl⟩
  have z1 : Below w.heap.size w w1 := by rw [hw1]; exact (Below.refl _ _).alloc (Nat.le_refl _) _
  have s1 : w1.heap.size = w.heap.size + 1 := by rw [hw1]; simp
  have hb1 := turn_on' ht0 (z1.mono (by omega))
  replace HC := HC.below' z1 (by omega)
  have R_0 : w1.cell? ⟨w.heap.size, 0, none⟩ = some (.int .i64 0) := by rw [hw1]; exact box_cell (Below.refl _ _) rfl
  have R_1 : w1.cell? ⟨w.heap.size, 1, none⟩ = some (.slice none 0 0) := by rw [hw1]; exact box_cell (Below.refl _ _) rfl
  have R_f0 : w1.frozen? ⟨w.heap.size, 0, none⟩ = false := by rw [hw1]; exact box_frozen (Below.refl _ _)
  have R_f1 : w1.frozen? ⟨w.heap.size, 1, none⟩ = false := by rw [hw1]; exact box_frozen (Below.refl _ _)
  have raw1_R_0 := R_0
  have raw1_R_1 := R_1
  have raw1_R_f0 := R_f0
  have raw1_R_f1 := R_f1
  rw [hw1] at raw1_R_0 raw1_R_1 raw1_R_f0 raw1_R_f1
  go_wp2_with fail
  rw [← hw1]
  clear hw1
  clear raw1_R_0 raw1_R_1 raw1_R_f0 raw1_R_f1
  obtain ⟨lo4, hlo4⟩ : ∃ q, q = w1.heap.size := ⟨_, rfl⟩
  have HC_o := HC
  clear HC
  refine (l7Query_any _ cb ba bn bc HC_o (by omega)).mono ?_
  rintro e w2 ⟨c0, b, n, c, y, rfl, oq, hval, HC, z2⟩
  clear HC_o
  have s3 := z2.size
  have hb3 := hb1.trans z2
  replace R_0 := txc z2 R_0
  replace R_1 := txc z2 R_1
  replace R_f0 := txf z2 R_f0
  replace R_f1 := txf z2 R_f1
  rw [← hlo4] at oq
  obtain ⟨hi5, hhi5⟩ : ∃ q, q = w2.heap.size := ⟨_, rfl⟩
  rw [← hhi5] at oq
  have hlh : w.heap.size + 1 ≤ lo4 ∧ cb + 1 ≤ lo4 ∧ lo4 ≤ hi5 := by omega
  obtain ⟨hy1, hy2, hy3⟩ := valid_shape hval
  obtain ⟨e0, hI0, oas, hny⟩ := oQ_open oq
  subst e0
  subst hny
  clear oq hval
  obtain ⟨w4, hw4⟩ : ∃ W, W = w2.alloc (.cells #[.int .i64 y.1, .slice b y.2.length c] 29) := ⟨_, rfl⟩
  have z4 : Below w2.heap.size w2 w4 := by rw [hw4]; exact (Below.refl _ _).alloc (Nat.le_refl _) _
  have s4 : w4.heap.size = w2.heap.size + 1 := by rw [hw4]; simp
  have hb4 := turn_on' hb3 (z4.mono (by omega))
  have old4_R_0 := R_0
  have old4_R_1 := R_1
  replace HC := HC.below' z4 (by omega)
  replace R_0 := bxc z4 R_0
  replace R_1 := bxc z4 R_1
  replace R_f0 := bxf z4 R_f0
  replace R_f1 := bxf z4 R_f1
  replace oas := oas.below z4 (by omega)
  have X_0 : w4.cell? ⟨w2.heap.size, 0, none⟩ = some (.int .i64 y.1) := by rw [hw4]; exact box_cell (Below.refl _ _) rfl
  have X_1 : w4.cell? ⟨w2.heap.size, 1, none⟩ = some (.slice b y.2.length c) := by rw [hw4]; exact box_cell (Below.refl _ _) rfl
  have X_f0 : w4.frozen? ⟨w2.heap.size, 0, none⟩ = false := by rw [hw4]; exact box_frozen (Below.refl _ _)
  have X_f1 : w4.frozen? ⟨w2.heap.size, 1, none⟩ = false := by rw [hw4]; exact box_frozen (Below.refl _ _)
  have raw4_R_0 := R_0
  have raw4_R_1 := R_1
  have raw4_R_f0 := R_f0
  have raw4_R_f1 := R_f1
  have raw4_X_0 := X_0
  have raw4_X_1 := X_1
  have raw4_X_f0 := X_f0
  have raw4_X_f1 := X_f1
  rw [hw4] at raw4_R_0 raw4_R_1 raw4_R_f0 raw4_R_f1 raw4_X_0 raw4_X_1 raw4_X_f0 raw4_X_f1
  go_wp2_with fail
  rw [← hw4]
  clear hw4
  clear old4_R_0 old4_R_1 raw4_R_0 raw4_R_1 raw4_R_f0 raw4_R_f1 raw4_X_0 raw4_X_1 raw4_X_f0 raw4_X_f1
  have HC_o := HC
  clear HC
  refine (l1Below_any _ cb ba bn bc 14 (by omega) HC_o).mono ?_
  rintro e w5 ⟨k1, rfl, hq0, hq1, hq2, HC, z5⟩
  clear HC_o
  have s6 := Nat.le_of_eq z5.size
  have s6' := Nat.le_of_eq z5.size.symm
  replace z5 := z5.turn
  have hb6 := hb4.trans z5
  replace R_0 := txc z5 R_0
  replace R_1 := txc z5 R_1
  replace R_f0 := txf z5 R_f0
  replace R_f1 := txf z5 R_f1
  replace oas := oas.turn z5 (by omega)
  replace X_0 := txc z5 X_0
  replace X_1 := txc z5 X_1
  replace X_f0 := txf z5 X_f0
  replace X_f1 := txf z5 X_f1
  clear hq0 hq1 hq2
  by_cases a0 : k1 = 0
  · subst a0
    have hw1 : IntKind.i64.wrap (y.1 + 1) = y.1 + 1 := IntWalk.i64_in _ (by omega)
    have h4 := ints_lit w5 [0, 5, y.1 + 1, 9223372036854775807] (by
      intro z hz
      simp only [List.mem_cons, List.not_mem_nil, or_false] at hz
      rcases hz with rfl | rfl | rfl | rfl
      · constructor <;> decide
      · constructor <;> decide
      · exact ⟨by omega, by omega⟩
      · constructor <;> decide) (by simp)
    have h4r : ∀ z ∈ [0, 5, y.1 + 1, 9223372036854775807], I64 z := h4.rng
    obtain ⟨w7, hw7⟩ : ∃ W, W = w5.alloc (.cells #[.int .i64 0, .int .i64 5, .int .i64 (y.1 + 1), .int .i64 9223372036854775807] 3) := ⟨_, rfl⟩
    have z7 : Below w5.heap.size w5 w7 := by rw [hw7]; exact (Below.refl _ _).alloc (Nat.le_refl _) _
    have s7 : w7.heap.size = w5.heap.size + 1 := by rw [hw7]; simp
    have hb7 := turn_on' hb6 (z7.mono (by omega))
    have old7_R_0 := R_0
    have old7_R_1 := R_1
    have old7_X_0 := X_0
    have old7_X_1 := X_1
    replace HC := HC.below' z7 (by omega)
    replace R_0 := bxc z7 R_0
    replace R_1 := bxc z7 R_1
    replace R_f0 := bxf z7 R_f0
    replace R_f1 := bxf z7 R_f1
    replace oas := oas.below z7 (by omega)
    replace X_0 := bxc z7 X_0
    replace X_1 := bxc z7 X_1
    replace X_f0 := bxf z7 X_f0
    replace X_f1 := bxf z7 X_f1
    have L_0 : w7.cell? ⟨w5.heap.size, 0, none⟩ = some (.int .i64 0) := by rw [hw7]; exact box_cell (Below.refl _ _) rfl
    have L_1 : w7.cell? ⟨w5.heap.size, 1, none⟩ = some (.int .i64 5) := by rw [hw7]; exact box_cell (Below.refl _ _) rfl
    have L_2 : w7.cell? ⟨w5.heap.size, 2, none⟩ = some (.int .i64 (y.1 + 1)) := by rw [hw7]; exact box_cell (Below.refl _ _) rfl
    have L_3 : w7.cell? ⟨w5.heap.size, 3, none⟩ = some (.int .i64 9223372036854775807) := by rw [hw7]; exact box_cell (Below.refl _ _) rfl
    have raw7_R_0 := R_0
    have raw7_R_1 := R_1
    have raw7_R_f0 := R_f0
    have raw7_R_f1 := R_f1
    have raw7_X_0 := X_0
    have raw7_X_1 := X_1
    have raw7_X_f0 := X_f0
    have raw7_X_f1 := X_f1
    have raw7_L_0 := L_0
    have raw7_L_1 := L_1
    have raw7_L_2 := L_2
    have raw7_L_3 := L_3
    rw [hw7] at raw7_R_0 raw7_R_1 raw7_R_f0 raw7_R_f1 raw7_X_0 raw7_X_1 raw7_X_f0 raw7_X_f1 raw7_L_0 raw7_L_1 raw7_L_2 raw7_L_3
    replace h4 : Ints w7 (some ⟨w5.heap.size, 0, none⟩) 4 [0, 5, y.1 + 1, 9223372036854775807] := by rw [hw7]; exact h4
    clear L_0 L_1 L_2 L_3
    go_wp2_with fail
    rw [← hw7]
    clear hw7
    clear old7_R_0 old7_R_1 old7_X_0 old7_X_1 raw7_R_0 raw7_R_1 raw7_R_f0 raw7_R_f1 raw7_X_0 raw7_X_1 raw7_X_f0 raw7_X_f1 raw7_L_0 raw7_L_1 raw7_L_2 raw7_L_3
    have HC_o := HC
    clear HC
    refine (l1PickInt_any _ cb ba bn bc _ 4 4 _ (by omega) (by omega) h4 (by omega) HC_o).mono ?_
    rintro e w8 ⟨z, rfl, hz, HC, z8⟩
    clear HC_o
    have s9 := Nat.le_of_eq z8.size
    have s9' := Nat.le_of_eq z8.size.symm
    replace z8 := z8.turn
    have hb9 := hb7.trans z8
    replace R_0 := txc z8 R_0
    replace R_1 := txc z8 R_1
    replace R_f0 := txf z8 R_f0
    replace R_f1 := txf z8 R_f1
    replace oas := oas.turn z8 (by omega)
    replace X_0 := txc z8 X_0
    replace X_1 := txc z8 X_1
    replace X_f0 := txf z8 X_f0
    replace X_f1 := txf z8 X_f1
    have hz64 : I64 z := h4r z hz
    clear h4 h4r hz hw1
    go_wp2_with fail
    refine bodyPost_ret (v := .agg #[.int .i64 z, .slice (b) y.2.length c]) (by simp [results, Tryz.results52, go_sem, R_0, R_1, R_f0, R_f1]) rfl ?_
    refine ⟨z, b, y.2.length, c, ((z, y.2) : DQ), rfl, ?_, ⟨⟨hy2.1, by show y.2.length ≤ 5; omega⟩, fun a ha => (hy3 a ha).2⟩, ?_, ?_⟩
    · refine Own.mono (lo := lo4) (hi := hi5) ?_ (by omega) (by simp [World.setCell]; omega)
      repeat (refine own_off ?_ rfl (by simp only []; omega))
      exact (oQ_mk (x := (z, y.2)) hz64 oas (Nat.le_refl _) (Nat.le_refl _))
    · refine Cur.below' (C := w.heap.size) HC ?_ hcb
      repeat (refine Below.setCell ?_ (by simp only []; omega) _)
      exact Below.refl _ _
    · refine turn_on' hb9 ?_
      repeat (refine Below.setCell ?_ (by simp only []; omega) _)
      exact Below.refl _ _
  by_cases a1 : k1 = 1
  · subst a1
    go_wp2_with fail
    have hdr : Below w5.heap.size w5 w5.drew := (Below.refl _ _).drew
    refine wp_region_noPanic ?_
    refine wp_region_held_drew (S := (fun W => True)) (by kernel_rfl) ?hS10 (fun hHeld => ?_)
    case hS10 => trivial
    refine wpAnyH_take (i := 0) (v := ?v0_11) rfl (by kernel_rfl) (by kernel_rfl) (by kernel_rfl) (fun _ _ _ h => h) (Or.inl ⟨by rfl, ?hy0_11⟩) (by assumption) ?rest0_11
    case hy0_11 => intro w hSw; (try dsimp only at hSw); go_simp; (try with_reducible rfl)
    try simp only [Act.put, lgA, lgB, lgC, lgD, lgE, lgF]
    refine wpAnyH_take (i := 2) (v := ?v2_12) rfl (by kernel_rfl) (by kernel_rfl) (by kernel_rfl) (fun _ _ _ h => h) (Or.inl ⟨by rfl, ?hy2_12⟩) (by assumption) ?rest2_12
    case hy2_12 => intro w hSw; (try dsimp only at hSw); go_simp; (try with_reducible rfl)
    try simp only [Act.put, lgA, lgB, lgC, lgD, lgE, lgF]
    refine wpAnyH_ready (rs := [1, 3, 5]) (by kernel_rfl) (by simp) ?_
    refine AllReadyH.cons rfl (fun K9 hK9 => ?_) (AllReadyH.cons rfl (fun K9 hK9 => ?_) (AllReadyH.cons rfl (fun K9 hK9 => ?_) AllReadyH.nil))
    · skip
      go_simp
      refine hK9.out _ _ trivial (fun hHeld => ?_)
      clear hK9 K9
      try simp only [Act.put, lgA, lgB, lgC, lgD, lgE, lgF]
      refine wpAnyH_ready (rs := [3, 5]) (by kernel_rfl) (by simp) ?_
      refine AllReadyH.cons rfl (fun K9 hK9 => ?_) (AllReadyH.cons rfl (fun K9 hK9 => ?_) AllReadyH.nil)
      · skip
        go_simp
        obtain ⟨gN, hgN⟩ : ∃ q, q = w5.heap.size := ⟨_, rfl⟩
        have hN : ∀ i, i < 3 → ∃ s, s ∈ [ByteArray.mk #[], ByteArray.mk #[119], ByteArray.mk #[114]] ∧ ((w5.alloc (.cells #[.string (ByteArray.mk #[]), .string (ByteArray.mk #[119]), .string (ByteArray.mk #[114])] 9)).drew).cell? ⟨w5.heap.size, i, none⟩ = some (.string s) := fun i hi => by
          rcases (by omega : i = 0 ∨ i = 1 ∨ i = 2) with rfl | rfl | rfl
          · exact ⟨ByteArray.mk #[], by simp, (show (w5.alloc (.cells #[.string (ByteArray.mk #[]), .string (ByteArray.mk #[119]), .string (ByteArray.mk #[114])] 9)).cell? ⟨w5.heap.size, 0, none⟩ = some (.string (ByteArray.mk #[])) from box_cell (Below.refl _ _) rfl)⟩
          · exact ⟨ByteArray.mk #[119], by simp, (show (w5.alloc (.cells #[.string (ByteArray.mk #[]), .string (ByteArray.mk #[119]), .string (ByteArray.mk #[114])] 9)).cell? ⟨w5.heap.size, 1, none⟩ = some (.string (ByteArray.mk #[119])) from box_cell (Below.refl _ _) rfl)⟩
          · exact ⟨ByteArray.mk #[114], by simp, (show (w5.alloc (.cells #[.string (ByteArray.mk #[]), .string (ByteArray.mk #[119]), .string (ByteArray.mk #[114])] 9)).cell? ⟨w5.heap.size, 2, none⟩ = some (.string (ByteArray.mk #[114])) from box_cell (Below.refl _ _) rfl)⟩
        obtain ⟨wr2, hwwr2⟩ : ∃ W, W = (w5.alloc (.cells #[.string (ByteArray.mk #[]), .string (ByteArray.mk #[119]), .string (ByteArray.mk #[114])] 9)).drew := ⟨_, rfl⟩
        rw [← hwwr2] at hN ⊢
        have zwr2 : Below w5.heap.size w5 wr2 := by rw [hwwr2]; exact ((Below.refl _ _).alloc (Nat.le_refl _) _).drew
        have swr2 : w5.heap.size + 1 ≤ wr2.heap.size := by rw [hwwr2]; simp
        clear hwwr2
        have hbx := turn_on' hb6 (zwr2.mono (by omega))
        replace oas := oas.below zwr2 (by omega)
        replace HC := HC.below' zwr2 (by omega)
        replace R_0 := bxc zwr2 R_0
        replace R_f0 := bxf zwr2 R_f0
        replace R_1 := bxc zwr2 R_1
        replace R_f1 := bxf zwr2 R_f1
        replace X_0 := bxc zwr2 X_0
        replace X_f0 := bxf zwr2 X_f0
        replace X_1 := bxc zwr2 X_1
        replace X_f1 := bxf zwr2 X_f1
        refine hK9.out _ _ trivial (fun hHeld => ?_)
        clear hK9 K9
        try simp only [Act.put, lgA, lgB, lgC, lgD, lgE, lgF]
        refine wpAnyH_ready (rs := [4, 5]) (by kernel_rfl) (by simp) ?_
        refine AllReadyH.cons rfl (fun K9 hK9 => ?_) (AllReadyH.cons rfl (fun K9 hK9 => ?_) AllReadyH.nil)
        · skip
          go_simp
          refine (l1Pick_any wr2 cb ba bn bc _ 3 3 _ (by omega) (by omega) hN (by omega) HC).mono ?_
          rintro e wr3 ⟨nm, rfl, hnm, HC2, zk⟩
          have zwr3 := zk.turn
          have swr3 := zwr3.size
          have hnms : nm.size ≤ 5 := by
            simp only [List.mem_cons, List.not_mem_nil, or_false] at hnm
            rcases hnm with rfl | rfl | rfl <;> decide
          clear HC zk hnm hN
          have HC := HC2
          clear HC2
          replace hbx := hbx.trans zwr3
          replace oas := oas.turn zwr3 (by omega)
          replace R_0 := txc zwr3 R_0
          replace R_f0 := txf zwr3 R_f0
          replace R_1 := txc zwr3 R_1
          replace R_f1 := txf zwr3 R_f1
          replace X_0 := txc zwr3 X_0
          replace X_f0 := txf zwr3 X_f0
          replace X_1 := txc zwr3 X_1
          replace X_f1 := txf zwr3 X_f1
          refine hK9.out _ _ trivial (fun hHeld => ?_)
          clear hK9 K9
          try simp only [Act.put, lgA, lgB, lgC, lgD, lgE, lgF]
          refine wpAnyH_ready (rs := [5]) (by kernel_rfl) (by simp) ?_
          refine AllReadyH.cons rfl (fun K9 hK9 => ?_) AllReadyH.nil
          go_simp
          have oL : Own oI wr3.heap.size (wr3.heap.size + 1) (wr3.alloc (.cells #[.int .i64 0] 3)) [.slice (some ⟨wr3.heap.size, 0, none⟩) 1 1] [0] := own_lit1 (W := wr3) (by constructor <;> decide)
          obtain ⟨wr4, hwwr4⟩ : ∃ W, W = wr3.alloc (.cells #[.int .i64 0] 3) := ⟨_, rfl⟩
          rw [← hwwr4] at oL ⊢
          have zwr4 : Below wr3.heap.size wr3 wr4 := by rw [hwwr4]; exact (Below.refl _ _).alloc (Nat.le_refl _) _
          have swr4 : wr3.heap.size + 1 ≤ wr4.heap.size := by rw [hwwr4]; simp
          clear hwwr4
          obtain ⟨gL, hgL⟩ : ∃ q, q = wr3.heap.size := ⟨_, rfl⟩
          replace hbx := turn_on' hbx (zwr4.mono (by omega))
          replace oas := oas.below zwr4 (by omega)
          replace HC := HC.below' zwr4 (by omega)
          replace R_0 := bxc zwr4 R_0
          replace R_f0 := bxf zwr4 R_f0
          replace R_1 := bxc zwr4 R_1
          replace R_f1 := bxf zwr4 R_f1
          replace X_0 := bxc zwr4 X_0
          replace X_f0 := bxf zwr4 X_f0
          replace X_1 := bxc zwr4 X_1
          replace X_f1 := bxf zwr4 X_f1
          refine hK9.out _ _ trivial (fun hHeld => ?_)
          clear hK9 K9
          try simp only [Act.put, lgA, lgB, lgC, lgD, lgE, lgF]
          refine wpAnyH_take (i := 6) (v := ?v6_13) rfl (by kernel_rfl) (by kernel_rfl) (by kernel_rfl) (fun _ _ _ h => h) (Or.inl ⟨by rfl, ?hy6_13⟩) (by assumption) ?rest6_13
          case hy6_13 => intro w hSw; (try dsimp only at hSw); go_simp; (try with_reducible rfl)
          try simp only [Act.put, lgA, lgB, lgC, lgD, lgE, lgF]
          refine wpAnyH_ready (rs := [7]) (by kernel_rfl) (by simp) ?_
          refine AllReadyH.cons rfl (fun K9 hK9 => ?_) AllReadyH.nil
          go_simp
          have oAt : Own oA wr3.heap.size (wr3.heap.size + 1) wr4 [.string nm, .slice (some ⟨wr3.heap.size, 0, none⟩) 1 1] (nm, [0]) := oA_mk (x := (nm, [0])) (show nm.size ≤ _ by omega) oL (Nat.le_refl _) (Nat.le_refl _)
          obtain ⟨na, nn, nc, wn, hrn, _, hzn, hzs, on_⟩ := own_atomT 27 oas oAt (by omega) (by omega) (by omega) (by omega) (by omega) rfl
          have x1r : (wr4.alloc (.cells #[.string nm, .slice (some ⟨wr3.heap.size, 0, none⟩) 1 1] 48)).cell? ⟨w2.heap.size, 1, none⟩ = some (.slice b y.2.length c) := (((Below.refl wr4.heap.size wr4).alloc (Nat.le_refl _) _).cell (p := ⟨w2.heap.size, 1, none⟩) (by simp only []; omega)).trans X_1
          refine hK9.out _ _ trivial (fun hHeld => ?_)
          clear hK9 K9
          try simp only [Act.put, lgA, lgB, lgC, lgD, lgE, lgF]
          refine wpAnyH_ready (rs := [8]) (by kernel_rfl) (by simp) ?_
          refine AllReadyH.cons rfl (fun K9 hK9 => ?_) AllReadyH.nil
          refine step_app2 hrn rfl rfl rfl rfl rfl ?_
          refine hK9.out _ _ trivial (fun hHeld => ?_)
          clear hK9 K9 x1r
          try simp only [Act.put, lgA, lgB, lgC, lgD, lgE, lgF]
          refine wpAnyH_take (i := 9) (v := ?v9_14) rfl (by kernel_rfl) (by kernel_rfl) (by kernel_rfl) (fun _ _ _ h => h) (Or.inl ⟨by rfl, ?hy9_14⟩) (by assumption) ?rest9_14
          case hy9_14 => intro w hSw; (try dsimp only at hSw); go_simp; (try with_reducible rfl)
          try simp only [Act.put, lgA, lgB, lgC, lgD, lgE, lgF]
          have zN := hzn.below (by omega)
          have sN := zN.size
          have hbN := turn_on' hbx (zN.mono (by omega))
          have r0 := bxc zN R_0
          have r1 := bxc zN R_1
          have rf0 := bxf zN R_f0
          have rf1 := bxf zN R_f1
          have x0 := txc hzn X_0
          have xf0 := txf hzn X_f0
          have x1 := txc hzn X_1
          have xf1 := txf hzn X_f1
          have HCN := HC.below' zN (by omega)
          clear R_0 R_f0 R_1 R_f1 X_0 X_f0 X_1 X_f1 HC oas oAt oL hzn zN
          refine wpAnyH_ready (rs := [10]) (by kernel_rfl) (by simp) ?_
          refine AllReadyH.cons rfl (fun K9 hK9 => ?_) AllReadyH.nil
          go_simp
          refine hK9.out _ _ trivial (fun hHeld => ?_)
          clear hK9 K9
          try simp only [Act.put, lgA, lgB, lgC, lgD, lgE, lgF]
          refine wpAnyH_done (by kernel_rfl) ?_ _
          refine NoPanic.normal ?_
          obtain ⟨zs, hzs9⟩ : ∃ q, y.2 ++ [(nm, [0])] = q := ⟨_, rfl⟩
          have hzl : zs.length = y.2.length + 1 := by rw [← hzs9, List.length_append]; rfl
          have hz3 : Hid (∀ a ∈ zs, a.2.length ≤ 3) := Lib.hid (by
            intro a ha
            rw [← hzs9] at ha
            rcases List.mem_append.1 ha with ha | ha
            · exact (hy3 a ha).2
            · simp only [List.mem_singleton] at ha
              subst ha
              exact (by decide : 1 ≤ 3))
          rw [hzs9] at on_
          obtain ⟨xn, hxn⟩ : ∃ q, q = wn.heap.size := ⟨_, rfl⟩
          rw [← hxn] at on_
          have oX := on_ ⟨w2.heap.size, 1, none⟩ (.slice na nn nc) (by simp only []; omega) (by simp only []; omega)
          clear hzs9 on_ hrn
          go_wp2_with fail
          refine bodyPost_ret (v := .agg #[.int .i64 y.1, .slice (na) nn nc]) (by simp [results, Tryz.results52, go_sem, r0, r1, rf0, rf1]) rfl ?_
          refine ⟨y.1, na, nn, nc, ((y.1, zs) : DQ), rfl, ?_, ⟨⟨by show 1 ≤ zs.length; omega, by show zs.length ≤ 5; omega⟩, hz3.out⟩, ?_, ?_⟩
          · refine Own.mono (lo := lo4) (hi := xn) ?_ (by omega) (by simp [World.setCell]; omega)
            repeat (refine own_off ?_ rfl (by simp only []; omega))
            exact (oQ_mk (x := (y.1, zs)) hI0 oX (Nat.le_refl _) (Nat.le_refl _))
          · refine Cur.below' (C := w.heap.size) HCN ?_ hcb
            repeat (refine Below.setCell ?_ (by simp only []; omega) _)
            exact Below.refl _ _
          · refine turn_on' hbN ?_
            repeat (refine Below.setCell ?_ (by simp only []; omega) _)
            exact Below.refl _ _
        · skip
          go_simp
          have oL : Own oI wr2.heap.size (wr2.heap.size + 1) (wr2.alloc (.cells #[.int .i64 0] 3)) [.slice (some ⟨wr2.heap.size, 0, none⟩) 1 1] [0] := own_lit1 (W := wr2) (by constructor <;> decide)
          obtain ⟨wr6, hwwr6⟩ : ∃ W, W = wr2.alloc (.cells #[.int .i64 0] 3) := ⟨_, rfl⟩
          rw [← hwwr6] at oL ⊢
          have zwr6 : Below wr2.heap.size wr2 wr6 := by rw [hwwr6]; exact (Below.refl _ _).alloc (Nat.le_refl _) _
          have swr6 : wr2.heap.size + 1 ≤ wr6.heap.size := by rw [hwwr6]; simp
          clear hwwr6
          obtain ⟨gL, hgL⟩ : ∃ q, q = wr2.heap.size := ⟨_, rfl⟩
          replace hbx := turn_on' hbx (zwr6.mono (by omega))
          replace oas := oas.below zwr6 (by omega)
          replace HC := HC.below' zwr6 (by omega)
          have hN2 : ∀ i, i < 3 → ∃ s, s ∈ [ByteArray.mk #[], ByteArray.mk #[119], ByteArray.mk #[114]] ∧ wr6.cell? ⟨w5.heap.size, i, none⟩ = some (.string s) := fun i hi => by
            obtain ⟨s9, h9, h8⟩ := hN i hi
            exact ⟨s9, h9, (zwr6.cell (p := ⟨w5.heap.size, i, none⟩) (by simp only []; omega)).trans h8⟩
          clear hN
          have hN := hN2
          clear hN2
          replace R_0 := bxc zwr6 R_0
          replace R_f0 := bxf zwr6 R_f0
          replace R_1 := bxc zwr6 R_1
          replace R_f1 := bxf zwr6 R_f1
          replace X_0 := bxc zwr6 X_0
          replace X_f0 := bxf zwr6 X_f0
          replace X_1 := bxc zwr6 X_1
          replace X_f1 := bxf zwr6 X_f1
          refine hK9.out _ _ trivial (fun hHeld => ?_)
          clear hK9 K9
          try simp only [Act.put, lgA, lgB, lgC, lgD, lgE, lgF]
          refine wpAnyH_ready (rs := [4]) (by kernel_rfl) (by simp) ?_
          refine AllReadyH.cons rfl (fun K9 hK9 => ?_) AllReadyH.nil
          go_simp
          refine (l1Pick_any wr6 cb ba bn bc _ 3 3 _ (by omega) (by omega) hN (by omega) HC).mono ?_
          rintro e wr7 ⟨nm, rfl, hnm, HC2, zk⟩
          have zwr7 := zk.turn
          have swr7 := zwr7.size
          have hnms : nm.size ≤ 5 := by
            simp only [List.mem_cons, List.not_mem_nil, or_false] at hnm
            rcases hnm with rfl | rfl | rfl <;> decide
          clear HC zk hnm hN
          have HC := HC2
          clear HC2
          replace hbx := hbx.trans zwr7
          replace oas := oas.turn zwr7 (by omega)
          replace oL := oL.turn zwr7 (by omega)
          replace R_0 := txc zwr7 R_0
          replace R_f0 := txf zwr7 R_f0
          replace R_1 := txc zwr7 R_1
          replace R_f1 := txf zwr7 R_f1
          replace X_0 := txc zwr7 X_0
          replace X_f0 := txf zwr7 X_f0
          replace X_1 := txc zwr7 X_1
          replace X_f1 := txf zwr7 X_f1
          refine hK9.out _ _ trivial (fun hHeld => ?_)
          clear hK9 K9
          try simp only [Act.put, lgA, lgB, lgC, lgD, lgE, lgF]
          refine wpAnyH_take (i := 6) (v := ?v6_15) rfl (by kernel_rfl) (by kernel_rfl) (by kernel_rfl) (fun _ _ _ h => h) (Or.inl ⟨by rfl, ?hy6_15⟩) (by assumption) ?rest6_15
          case hy6_15 => intro w hSw; (try dsimp only at hSw); go_simp; (try with_reducible rfl)
          try simp only [Act.put, lgA, lgB, lgC, lgD, lgE, lgF]
          refine wpAnyH_ready (rs := [7]) (by kernel_rfl) (by simp) ?_
          refine AllReadyH.cons rfl (fun K9 hK9 => ?_) AllReadyH.nil
          go_simp
          have oAt : Own oA wr2.heap.size (wr2.heap.size + 1) wr7 [.string nm, .slice (some ⟨wr2.heap.size, 0, none⟩) 1 1] (nm, [0]) := oA_mk (x := (nm, [0])) (show nm.size ≤ _ by omega) oL (Nat.le_refl _) (Nat.le_refl _)
          obtain ⟨na, nn, nc, wn, hrn, _, hzn, hzs, on_⟩ := own_atomT 27 oas oAt (by omega) (by omega) (by omega) (by omega) (by omega) rfl
          have x1r : (wr7.alloc (.cells #[.string nm, .slice (some ⟨wr2.heap.size, 0, none⟩) 1 1] 48)).cell? ⟨w2.heap.size, 1, none⟩ = some (.slice b y.2.length c) := (((Below.refl wr7.heap.size wr7).alloc (Nat.le_refl _) _).cell (p := ⟨w2.heap.size, 1, none⟩) (by simp only []; omega)).trans X_1
          refine hK9.out _ _ trivial (fun hHeld => ?_)
          clear hK9 K9
          try simp only [Act.put, lgA, lgB, lgC, lgD, lgE, lgF]
          refine wpAnyH_ready (rs := [8]) (by kernel_rfl) (by simp) ?_
          refine AllReadyH.cons rfl (fun K9 hK9 => ?_) AllReadyH.nil
          refine step_app2 hrn rfl rfl rfl rfl rfl ?_
          refine hK9.out _ _ trivial (fun hHeld => ?_)
          clear hK9 K9 x1r
          try simp only [Act.put, lgA, lgB, lgC, lgD, lgE, lgF]
          refine wpAnyH_take (i := 9) (v := ?v9_16) rfl (by kernel_rfl) (by kernel_rfl) (by kernel_rfl) (fun _ _ _ h => h) (Or.inl ⟨by rfl, ?hy9_16⟩) (by assumption) ?rest9_16
          case hy9_16 => intro w hSw; (try dsimp only at hSw); go_simp; (try with_reducible rfl)
          try simp only [Act.put, lgA, lgB, lgC, lgD, lgE, lgF]
          have zN := hzn.below (by omega)
          have sN := zN.size
          have hbN := turn_on' hbx (zN.mono (by omega))
          have r0 := bxc zN R_0
          have r1 := bxc zN R_1
          have rf0 := bxf zN R_f0
          have rf1 := bxf zN R_f1
          have x0 := txc hzn X_0
          have xf0 := txf hzn X_f0
          have x1 := txc hzn X_1
          have xf1 := txf hzn X_f1
          have HCN := HC.below' zN (by omega)
          clear R_0 R_f0 R_1 R_f1 X_0 X_f0 X_1 X_f1 HC oas oAt oL hzn zN
          refine wpAnyH_ready (rs := [10]) (by kernel_rfl) (by simp) ?_
          refine AllReadyH.cons rfl (fun K9 hK9 => ?_) AllReadyH.nil
          go_simp
          refine hK9.out _ _ trivial (fun hHeld => ?_)
          clear hK9 K9
          try simp only [Act.put, lgA, lgB, lgC, lgD, lgE, lgF]
          refine wpAnyH_done (by kernel_rfl) ?_ _
          refine NoPanic.normal ?_
          obtain ⟨zs, hzs9⟩ : ∃ q, y.2 ++ [(nm, [0])] = q := ⟨_, rfl⟩
          have hzl : zs.length = y.2.length + 1 := by rw [← hzs9, List.length_append]; rfl
          have hz3 : Hid (∀ a ∈ zs, a.2.length ≤ 3) := Lib.hid (by
            intro a ha
            rw [← hzs9] at ha
            rcases List.mem_append.1 ha with ha | ha
            · exact (hy3 a ha).2
            · simp only [List.mem_singleton] at ha
              subst ha
              exact (by decide : 1 ≤ 3))
          rw [hzs9] at on_
          obtain ⟨xn, hxn⟩ : ∃ q, q = wn.heap.size := ⟨_, rfl⟩
          rw [← hxn] at on_
          have oX := on_ ⟨w2.heap.size, 1, none⟩ (.slice na nn nc) (by simp only []; omega) (by simp only []; omega)
          clear hzs9 on_ hrn
          go_wp2_with fail
          refine bodyPost_ret (v := .agg #[.int .i64 y.1, .slice (na) nn nc]) (by simp [results, Tryz.results52, go_sem, r0, r1, rf0, rf1]) rfl ?_
          refine ⟨y.1, na, nn, nc, ((y.1, zs) : DQ), rfl, ?_, ⟨⟨by show 1 ≤ zs.length; omega, by show zs.length ≤ 5; omega⟩, hz3.out⟩, ?_, ?_⟩
          · refine Own.mono (lo := lo4) (hi := xn) ?_ (by omega) (by simp [World.setCell]; omega)
            repeat (refine own_off ?_ rfl (by simp only []; omega))
            exact (oQ_mk (x := (y.1, zs)) hI0 oX (Nat.le_refl _) (Nat.le_refl _))
          · refine Cur.below' (C := w.heap.size) HCN ?_ hcb
            repeat (refine Below.setCell ?_ (by simp only []; omega) _)
            exact Below.refl _ _
          · refine turn_on' hbN ?_
            repeat (refine Below.setCell ?_ (by simp only []; omega) _)
            exact Below.refl _ _
      · skip
        go_simp
        have oL : Own oI w5.heap.size (w5.heap.size + 1) ((w5.alloc (.cells #[.int .i64 0] 3)).drew) [.slice (some ⟨w5.heap.size, 0, none⟩) 1 1] [0] := (own_lit1 (W := w5) (by constructor <;> decide)).below ((Below.refl _ _).drew) (Nat.le_refl _)
        obtain ⟨wr9, hwwr9⟩ : ∃ W, W = (w5.alloc (.cells #[.int .i64 0] 3)).drew := ⟨_, rfl⟩
        rw [← hwwr9] at oL ⊢
        have zwr9 : Below w5.heap.size w5 wr9 := by rw [hwwr9]; exact ((Below.refl _ _).alloc (Nat.le_refl _) _).drew
        have swr9 : w5.heap.size + 1 ≤ wr9.heap.size := by rw [hwwr9]; simp
        clear hwwr9
        obtain ⟨gL, hgL⟩ : ∃ q, q = w5.heap.size := ⟨_, rfl⟩
        have hbx := turn_on' hb6 (zwr9.mono (by omega))
        replace oas := oas.below zwr9 (by omega)
        replace HC := HC.below' zwr9 (by omega)
        replace R_0 := bxc zwr9 R_0
        replace R_f0 := bxf zwr9 R_f0
        replace R_1 := bxc zwr9 R_1
        replace R_f1 := bxf zwr9 R_f1
        replace X_0 := bxc zwr9 X_0
        replace X_f0 := bxf zwr9 X_f0
        replace X_1 := bxc zwr9 X_1
        replace X_f1 := bxf zwr9 X_f1
        refine hK9.out _ _ trivial (fun hHeld => ?_)
        clear hK9 K9
        try simp only [Act.put, lgA, lgB, lgC, lgD, lgE, lgF]
        refine wpAnyH_ready (rs := [3]) (by kernel_rfl) (by simp) ?_
        refine AllReadyH.cons rfl (fun K9 hK9 => ?_) AllReadyH.nil
        go_simp
        obtain ⟨gN, hgN⟩ : ∃ q, q = wr9.heap.size := ⟨_, rfl⟩
        have hN : ∀ i, i < 3 → ∃ s, s ∈ [ByteArray.mk #[], ByteArray.mk #[119], ByteArray.mk #[114]] ∧ (wr9.alloc (.cells #[.string (ByteArray.mk #[]), .string (ByteArray.mk #[119]), .string (ByteArray.mk #[114])] 9)).cell? ⟨wr9.heap.size, i, none⟩ = some (.string s) := fun i hi => by
          rcases (by omega : i = 0 ∨ i = 1 ∨ i = 2) with rfl | rfl | rfl
          · exact ⟨ByteArray.mk #[], by simp, (show (wr9.alloc (.cells #[.string (ByteArray.mk #[]), .string (ByteArray.mk #[119]), .string (ByteArray.mk #[114])] 9)).cell? ⟨wr9.heap.size, 0, none⟩ = some (.string (ByteArray.mk #[])) from box_cell (Below.refl _ _) rfl)⟩
          · exact ⟨ByteArray.mk #[119], by simp, (show (wr9.alloc (.cells #[.string (ByteArray.mk #[]), .string (ByteArray.mk #[119]), .string (ByteArray.mk #[114])] 9)).cell? ⟨wr9.heap.size, 1, none⟩ = some (.string (ByteArray.mk #[119])) from box_cell (Below.refl _ _) rfl)⟩
          · exact ⟨ByteArray.mk #[114], by simp, (show (wr9.alloc (.cells #[.string (ByteArray.mk #[]), .string (ByteArray.mk #[119]), .string (ByteArray.mk #[114])] 9)).cell? ⟨wr9.heap.size, 2, none⟩ = some (.string (ByteArray.mk #[114])) from box_cell (Below.refl _ _) rfl)⟩
        obtain ⟨wr10, hwwr10⟩ : ∃ W, W = wr9.alloc (.cells #[.string (ByteArray.mk #[]), .string (ByteArray.mk #[119]), .string (ByteArray.mk #[114])] 9) := ⟨_, rfl⟩
        rw [← hwwr10] at hN ⊢
        have zwr10 : Below wr9.heap.size wr9 wr10 := by rw [hwwr10]; exact (Below.refl _ _).alloc (Nat.le_refl _) _
        have swr10 : wr9.heap.size + 1 ≤ wr10.heap.size := by rw [hwwr10]; simp
        clear hwwr10
        replace hbx := turn_on' hbx (zwr10.mono (by omega))
        replace oas := oas.below zwr10 (by omega)
        replace HC := HC.below' zwr10 (by omega)
        replace oL := oL.below zwr10 (by omega)
        replace R_0 := bxc zwr10 R_0
        replace R_f0 := bxf zwr10 R_f0
        replace R_1 := bxc zwr10 R_1
        replace R_f1 := bxf zwr10 R_f1
        replace X_0 := bxc zwr10 X_0
        replace X_f0 := bxf zwr10 X_f0
        replace X_1 := bxc zwr10 X_1
        replace X_f1 := bxf zwr10 X_f1
        refine hK9.out _ _ trivial (fun hHeld => ?_)
        clear hK9 K9
        try simp only [Act.put, lgA, lgB, lgC, lgD, lgE, lgF]
        refine wpAnyH_ready (rs := [4]) (by kernel_rfl) (by simp) ?_
        refine AllReadyH.cons rfl (fun K9 hK9 => ?_) AllReadyH.nil
        go_simp
        refine (l1Pick_any wr10 cb ba bn bc _ 3 3 _ (by omega) (by omega) hN (by omega) HC).mono ?_
        rintro e wr11 ⟨nm, rfl, hnm, HC2, zk⟩
        have zwr11 := zk.turn
        have swr11 := zwr11.size
        have hnms : nm.size ≤ 5 := by
          simp only [List.mem_cons, List.not_mem_nil, or_false] at hnm
          rcases hnm with rfl | rfl | rfl <;> decide
        clear HC zk hnm hN
        have HC := HC2
        clear HC2
        replace hbx := hbx.trans zwr11
        replace oas := oas.turn zwr11 (by omega)
        replace oL := oL.turn zwr11 (by omega)
        replace R_0 := txc zwr11 R_0
        replace R_f0 := txf zwr11 R_f0
        replace R_1 := txc zwr11 R_1
        replace R_f1 := txf zwr11 R_f1
        replace X_0 := txc zwr11 X_0
        replace X_f0 := txf zwr11 X_f0
        replace X_1 := txc zwr11 X_1
        replace X_f1 := txf zwr11 X_f1
        refine hK9.out _ _ trivial (fun hHeld => ?_)
        clear hK9 K9
        try simp only [Act.put, lgA, lgB, lgC, lgD, lgE, lgF]
        refine wpAnyH_take (i := 6) (v := ?v6_17) rfl (by kernel_rfl) (by kernel_rfl) (by kernel_rfl) (fun _ _ _ h => h) (Or.inl ⟨by rfl, ?hy6_17⟩) (by assumption) ?rest6_17
        case hy6_17 => intro w hSw; (try dsimp only at hSw); go_simp; (try with_reducible rfl)
        try simp only [Act.put, lgA, lgB, lgC, lgD, lgE, lgF]
        refine wpAnyH_ready (rs := [7]) (by kernel_rfl) (by simp) ?_
        refine AllReadyH.cons rfl (fun K9 hK9 => ?_) AllReadyH.nil
        go_simp
        have oAt : Own oA w5.heap.size (w5.heap.size + 1) wr11 [.string nm, .slice (some ⟨w5.heap.size, 0, none⟩) 1 1] (nm, [0]) := oA_mk (x := (nm, [0])) (show nm.size ≤ _ by omega) oL (Nat.le_refl _) (Nat.le_refl _)
        obtain ⟨na, nn, nc, wn, hrn, _, hzn, hzs, on_⟩ := own_atomT 27 oas oAt (by omega) (by omega) (by omega) (by omega) (by omega) rfl
        have x1r : (wr11.alloc (.cells #[.string nm, .slice (some ⟨w5.heap.size, 0, none⟩) 1 1] 48)).cell? ⟨w2.heap.size, 1, none⟩ = some (.slice b y.2.length c) := (((Below.refl wr11.heap.size wr11).alloc (Nat.le_refl _) _).cell (p := ⟨w2.heap.size, 1, none⟩) (by simp only []; omega)).trans X_1
        refine hK9.out _ _ trivial (fun hHeld => ?_)
        clear hK9 K9
        try simp only [Act.put, lgA, lgB, lgC, lgD, lgE, lgF]
        refine wpAnyH_ready (rs := [8]) (by kernel_rfl) (by simp) ?_
        refine AllReadyH.cons rfl (fun K9 hK9 => ?_) AllReadyH.nil
        refine step_app2 hrn rfl rfl rfl rfl rfl ?_
        refine hK9.out _ _ trivial (fun hHeld => ?_)
        clear hK9 K9 x1r
        try simp only [Act.put, lgA, lgB, lgC, lgD, lgE, lgF]
        refine wpAnyH_take (i := 9) (v := ?v9_18) rfl (by kernel_rfl) (by kernel_rfl) (by kernel_rfl) (fun _ _ _ h => h) (Or.inl ⟨by rfl, ?hy9_18⟩) (by assumption) ?rest9_18
        case hy9_18 => intro w hSw; (try dsimp only at hSw); go_simp; (try with_reducible rfl)
        try simp only [Act.put, lgA, lgB, lgC, lgD, lgE, lgF]
        have zN := hzn.below (by omega)
        have sN := zN.size
        have hbN := turn_on' hbx (zN.mono (by omega))
        have r0 := bxc zN R_0
        have r1 := bxc zN R_1
        have rf0 := bxf zN R_f0
        have rf1 := bxf zN R_f1
        have x0 := txc hzn X_0
        have xf0 := txf hzn X_f0
        have x1 := txc hzn X_1
        have xf1 := txf hzn X_f1
        have HCN := HC.below' zN (by omega)
        clear R_0 R_f0 R_1 R_f1 X_0 X_f0 X_1 X_f1 HC oas oAt oL hzn zN
        refine wpAnyH_ready (rs := [10]) (by kernel_rfl) (by simp) ?_
        refine AllReadyH.cons rfl (fun K9 hK9 => ?_) AllReadyH.nil
        go_simp
        refine hK9.out _ _ trivial (fun hHeld => ?_)
        clear hK9 K9
        try simp only [Act.put, lgA, lgB, lgC, lgD, lgE, lgF]
        refine wpAnyH_done (by kernel_rfl) ?_ _
        refine NoPanic.normal ?_
        obtain ⟨zs, hzs9⟩ : ∃ q, y.2 ++ [(nm, [0])] = q := ⟨_, rfl⟩
        have hzl : zs.length = y.2.length + 1 := by rw [← hzs9, List.length_append]; rfl
        have hz3 : Hid (∀ a ∈ zs, a.2.length ≤ 3) := Lib.hid (by
          intro a ha
          rw [← hzs9] at ha
          rcases List.mem_append.1 ha with ha | ha
          · exact (hy3 a ha).2
          · simp only [List.mem_singleton] at ha
            subst ha
            exact (by decide : 1 ≤ 3))
        rw [hzs9] at on_
        obtain ⟨xn, hxn⟩ : ∃ q, q = wn.heap.size := ⟨_, rfl⟩
        rw [← hxn] at on_
        have oX := on_ ⟨w2.heap.size, 1, none⟩ (.slice na nn nc) (by simp only []; omega) (by simp only []; omega)
        clear hzs9 on_ hrn
        go_wp2_with fail
        refine bodyPost_ret (v := .agg #[.int .i64 y.1, .slice (na) nn nc]) (by simp [results, Tryz.results52, go_sem, r0, r1, rf0, rf1]) rfl ?_
        refine ⟨y.1, na, nn, nc, ((y.1, zs) : DQ), rfl, ?_, ⟨⟨by show 1 ≤ zs.length; omega, by show zs.length ≤ 5; omega⟩, hz3.out⟩, ?_, ?_⟩
        · refine Own.mono (lo := lo4) (hi := xn) ?_ (by omega) (by simp [World.setCell]; omega)
          repeat (refine own_off ?_ rfl (by simp only []; omega))
          exact (oQ_mk (x := (y.1, zs)) hI0 oX (Nat.le_refl _) (Nat.le_refl _))
        · refine Cur.below' (C := w.heap.size) HCN ?_ hcb
          repeat (refine Below.setCell ?_ (by simp only []; omega) _)
          exact Below.refl _ _
        · refine turn_on' hbN ?_
          repeat (refine Below.setCell ?_ (by simp only []; omega) _)
          exact Below.refl _ _
    · skip
      go_simp
      obtain ⟨gN, hgN⟩ : ∃ q, q = w5.heap.size := ⟨_, rfl⟩
      have hN : ∀ i, i < 3 → ∃ s, s ∈ [ByteArray.mk #[], ByteArray.mk #[119], ByteArray.mk #[114]] ∧ ((w5.alloc (.cells #[.string (ByteArray.mk #[]), .string (ByteArray.mk #[119]), .string (ByteArray.mk #[114])] 9)).drew).cell? ⟨w5.heap.size, i, none⟩ = some (.string s) := fun i hi => by
        rcases (by omega : i = 0 ∨ i = 1 ∨ i = 2) with rfl | rfl | rfl
        · exact ⟨ByteArray.mk #[], by simp, (show (w5.alloc (.cells #[.string (ByteArray.mk #[]), .string (ByteArray.mk #[119]), .string (ByteArray.mk #[114])] 9)).cell? ⟨w5.heap.size, 0, none⟩ = some (.string (ByteArray.mk #[])) from box_cell (Below.refl _ _) rfl)⟩
        · exact ⟨ByteArray.mk #[119], by simp, (show (w5.alloc (.cells #[.string (ByteArray.mk #[]), .string (ByteArray.mk #[119]), .string (ByteArray.mk #[114])] 9)).cell? ⟨w5.heap.size, 1, none⟩ = some (.string (ByteArray.mk #[119])) from box_cell (Below.refl _ _) rfl)⟩
        · exact ⟨ByteArray.mk #[114], by simp, (show (w5.alloc (.cells #[.string (ByteArray.mk #[]), .string (ByteArray.mk #[119]), .string (ByteArray.mk #[114])] 9)).cell? ⟨w5.heap.size, 2, none⟩ = some (.string (ByteArray.mk #[114])) from box_cell (Below.refl _ _) rfl)⟩
      obtain ⟨wr13, hwwr13⟩ : ∃ W, W = (w5.alloc (.cells #[.string (ByteArray.mk #[]), .string (ByteArray.mk #[119]), .string (ByteArray.mk #[114])] 9)).drew := ⟨_, rfl⟩
      rw [← hwwr13] at hN ⊢
      have zwr13 : Below w5.heap.size w5 wr13 := by rw [hwwr13]; exact ((Below.refl _ _).alloc (Nat.le_refl _) _).drew
      have swr13 : w5.heap.size + 1 ≤ wr13.heap.size := by rw [hwwr13]; simp
      clear hwwr13
      have hbx := turn_on' hb6 (zwr13.mono (by omega))
      replace oas := oas.below zwr13 (by omega)
      replace HC := HC.below' zwr13 (by omega)
      replace R_0 := bxc zwr13 R_0
      replace R_f0 := bxf zwr13 R_f0
      replace R_1 := bxc zwr13 R_1
      replace R_f1 := bxf zwr13 R_f1
      replace X_0 := bxc zwr13 X_0
      replace X_f0 := bxf zwr13 X_f0
      replace X_1 := bxc zwr13 X_1
      replace X_f1 := bxf zwr13 X_f1
      refine hK9.out _ _ trivial (fun hHeld => ?_)
      clear hK9 K9
      try simp only [Act.put, lgA, lgB, lgC, lgD, lgE, lgF]
      refine wpAnyH_ready (rs := [1, 4, 5]) (by kernel_rfl) (by simp) ?_
      refine AllReadyH.cons rfl (fun K9 hK9 => ?_) (AllReadyH.cons rfl (fun K9 hK9 => ?_) (AllReadyH.cons rfl (fun K9 hK9 => ?_) AllReadyH.nil))
      · skip
        go_simp
        refine hK9.out _ _ trivial (fun hHeld => ?_)
        clear hK9 K9
        try simp only [Act.put, lgA, lgB, lgC, lgD, lgE, lgF]
        refine wpAnyH_ready (rs := [4, 5]) (by kernel_rfl) (by simp) ?_
        refine AllReadyH.cons rfl (fun K9 hK9 => ?_) (AllReadyH.cons rfl (fun K9 hK9 => ?_) AllReadyH.nil)
        · skip
          go_simp
          refine (l1Pick_any wr13 cb ba bn bc _ 3 3 _ (by omega) (by omega) hN (by omega) HC).mono ?_
          rintro e wr15 ⟨nm, rfl, hnm, HC2, zk⟩
          have zwr15 := zk.turn
          have swr15 := zwr15.size
          have hnms : nm.size ≤ 5 := by
            simp only [List.mem_cons, List.not_mem_nil, or_false] at hnm
            rcases hnm with rfl | rfl | rfl <;> decide
          clear HC zk hnm hN
          have HC := HC2
          clear HC2
          replace hbx := hbx.trans zwr15
          replace oas := oas.turn zwr15 (by omega)
          replace R_0 := txc zwr15 R_0
          replace R_f0 := txf zwr15 R_f0
          replace R_1 := txc zwr15 R_1
          replace R_f1 := txf zwr15 R_f1
          replace X_0 := txc zwr15 X_0
          replace X_f0 := txf zwr15 X_f0
          replace X_1 := txc zwr15 X_1
          replace X_f1 := txf zwr15 X_f1
          refine hK9.out _ _ trivial (fun hHeld => ?_)
          clear hK9 K9
          try simp only [Act.put, lgA, lgB, lgC, lgD, lgE, lgF]
          refine wpAnyH_ready (rs := [5]) (by kernel_rfl) (by simp) ?_
          refine AllReadyH.cons rfl (fun K9 hK9 => ?_) AllReadyH.nil
          go_simp
          have oL : Own oI wr15.heap.size (wr15.heap.size + 1) (wr15.alloc (.cells #[.int .i64 0] 3)) [.slice (some ⟨wr15.heap.size, 0, none⟩) 1 1] [0] := own_lit1 (W := wr15) (by constructor <;> decide)
          obtain ⟨wr16, hwwr16⟩ : ∃ W, W = wr15.alloc (.cells #[.int .i64 0] 3) := ⟨_, rfl⟩
          rw [← hwwr16] at oL ⊢
          have zwr16 : Below wr15.heap.size wr15 wr16 := by rw [hwwr16]; exact (Below.refl _ _).alloc (Nat.le_refl _) _
          have swr16 : wr15.heap.size + 1 ≤ wr16.heap.size := by rw [hwwr16]; simp
          clear hwwr16
          obtain ⟨gL, hgL⟩ : ∃ q, q = wr15.heap.size := ⟨_, rfl⟩
          replace hbx := turn_on' hbx (zwr16.mono (by omega))
          replace oas := oas.below zwr16 (by omega)
          replace HC := HC.below' zwr16 (by omega)
          replace R_0 := bxc zwr16 R_0
          replace R_f0 := bxf zwr16 R_f0
          replace R_1 := bxc zwr16 R_1
          replace R_f1 := bxf zwr16 R_f1
          replace X_0 := bxc zwr16 X_0
          replace X_f0 := bxf zwr16 X_f0
          replace X_1 := bxc zwr16 X_1
          replace X_f1 := bxf zwr16 X_f1
          refine hK9.out _ _ trivial (fun hHeld => ?_)
          clear hK9 K9
          try simp only [Act.put, lgA, lgB, lgC, lgD, lgE, lgF]
          refine wpAnyH_take (i := 6) (v := ?v6_19) rfl (by kernel_rfl) (by kernel_rfl) (by kernel_rfl) (fun _ _ _ h => h) (Or.inl ⟨by rfl, ?hy6_19⟩) (by assumption) ?rest6_19
          case hy6_19 => intro w hSw; (try dsimp only at hSw); go_simp; (try with_reducible rfl)
          try simp only [Act.put, lgA, lgB, lgC, lgD, lgE, lgF]
          refine wpAnyH_ready (rs := [7]) (by kernel_rfl) (by simp) ?_
          refine AllReadyH.cons rfl (fun K9 hK9 => ?_) AllReadyH.nil
          go_simp
          have oAt : Own oA wr15.heap.size (wr15.heap.size + 1) wr16 [.string nm, .slice (some ⟨wr15.heap.size, 0, none⟩) 1 1] (nm, [0]) := oA_mk (x := (nm, [0])) (show nm.size ≤ _ by omega) oL (Nat.le_refl _) (Nat.le_refl _)
          obtain ⟨na, nn, nc, wn, hrn, _, hzn, hzs, on_⟩ := own_atomT 27 oas oAt (by omega) (by omega) (by omega) (by omega) (by omega) rfl
          have x1r : (wr16.alloc (.cells #[.string nm, .slice (some ⟨wr15.heap.size, 0, none⟩) 1 1] 48)).cell? ⟨w2.heap.size, 1, none⟩ = some (.slice b y.2.length c) := (((Below.refl wr16.heap.size wr16).alloc (Nat.le_refl _) _).cell (p := ⟨w2.heap.size, 1, none⟩) (by simp only []; omega)).trans X_1
          refine hK9.out _ _ trivial (fun hHeld => ?_)
          clear hK9 K9
          try simp only [Act.put, lgA, lgB, lgC, lgD, lgE, lgF]
          refine wpAnyH_ready (rs := [8]) (by kernel_rfl) (by simp) ?_
          refine AllReadyH.cons rfl (fun K9 hK9 => ?_) AllReadyH.nil
          refine step_app2 hrn rfl rfl rfl rfl rfl ?_
          refine hK9.out _ _ trivial (fun hHeld => ?_)
          clear hK9 K9 x1r
          try simp only [Act.put, lgA, lgB, lgC, lgD, lgE, lgF]
          refine wpAnyH_take (i := 9) (v := ?v9_20) rfl (by kernel_rfl) (by kernel_rfl) (by kernel_rfl) (fun _ _ _ h => h) (Or.inl ⟨by rfl, ?hy9_20⟩) (by assumption) ?rest9_20
          case hy9_20 => intro w hSw; (try dsimp only at hSw); go_simp; (try with_reducible rfl)
          try simp only [Act.put, lgA, lgB, lgC, lgD, lgE, lgF]
          have zN := hzn.below (by omega)
          have sN := zN.size
          have hbN := turn_on' hbx (zN.mono (by omega))
          have r0 := bxc zN R_0
          have r1 := bxc zN R_1
          have rf0 := bxf zN R_f0
          have rf1 := bxf zN R_f1
          have x0 := txc hzn X_0
          have xf0 := txf hzn X_f0
          have x1 := txc hzn X_1
          have xf1 := txf hzn X_f1
          have HCN := HC.below' zN (by omega)
          clear R_0 R_f0 R_1 R_f1 X_0 X_f0 X_1 X_f1 HC oas oAt oL hzn zN
          refine wpAnyH_ready (rs := [10]) (by kernel_rfl) (by simp) ?_
          refine AllReadyH.cons rfl (fun K9 hK9 => ?_) AllReadyH.nil
          go_simp
          refine hK9.out _ _ trivial (fun hHeld => ?_)
          clear hK9 K9
          try simp only [Act.put, lgA, lgB, lgC, lgD, lgE, lgF]
          refine wpAnyH_done (by kernel_rfl) ?_ _
          refine NoPanic.normal ?_
          obtain ⟨zs, hzs9⟩ : ∃ q, y.2 ++ [(nm, [0])] = q := ⟨_, rfl⟩
          have hzl : zs.length = y.2.length + 1 := by rw [← hzs9, List.length_append]; rfl
          have hz3 : Hid (∀ a ∈ zs, a.2.length ≤ 3) := Lib.hid (by
            intro a ha
            rw [← hzs9] at ha
            rcases List.mem_append.1 ha with ha | ha
            · exact (hy3 a ha).2
            · simp only [List.mem_singleton] at ha
              subst ha
              exact (by decide : 1 ≤ 3))
          rw [hzs9] at on_
          obtain ⟨xn, hxn⟩ : ∃ q, q = wn.heap.size := ⟨_, rfl⟩
          rw [← hxn] at on_
          have oX := on_ ⟨w2.heap.size, 1, none⟩ (.slice na nn nc) (by simp only []; omega) (by simp only []; omega)
          clear hzs9 on_ hrn
          go_wp2_with fail
          refine bodyPost_ret (v := .agg #[.int .i64 y.1, .slice (na) nn nc]) (by simp [results, Tryz.results52, go_sem, r0, r1, rf0, rf1]) rfl ?_
          refine ⟨y.1, na, nn, nc, ((y.1, zs) : DQ), rfl, ?_, ⟨⟨by show 1 ≤ zs.length; omega, by show zs.length ≤ 5; omega⟩, hz3.out⟩, ?_, ?_⟩
          · refine Own.mono (lo := lo4) (hi := xn) ?_ (by omega) (by simp [World.setCell]; omega)
            repeat (refine own_off ?_ rfl (by simp only []; omega))
            exact (oQ_mk (x := (y.1, zs)) hI0 oX (Nat.le_refl _) (Nat.le_refl _))
          · refine Cur.below' (C := w.heap.size) HCN ?_ hcb
            repeat (refine Below.setCell ?_ (by simp only []; omega) _)
            exact Below.refl _ _
          · refine turn_on' hbN ?_
            repeat (refine Below.setCell ?_ (by simp only []; omega) _)
            exact Below.refl _ _
        · skip
          go_simp
          have oL : Own oI wr13.heap.size (wr13.heap.size + 1) (wr13.alloc (.cells #[.int .i64 0] 3)) [.slice (some ⟨wr13.heap.size, 0, none⟩) 1 1] [0] := own_lit1 (W := wr13) (by constructor <;> decide)
          obtain ⟨wr18, hwwr18⟩ : ∃ W, W = wr13.alloc (.cells #[.int .i64 0] 3) := ⟨_, rfl⟩
          rw [← hwwr18] at oL ⊢
          have zwr18 : Below wr13.heap.size wr13 wr18 := by rw [hwwr18]; exact (Below.refl _ _).alloc (Nat.le_refl _) _
          have swr18 : wr13.heap.size + 1 ≤ wr18.heap.size := by rw [hwwr18]; simp
          clear hwwr18
          obtain ⟨gL, hgL⟩ : ∃ q, q = wr13.heap.size := ⟨_, rfl⟩
          replace hbx := turn_on' hbx (zwr18.mono (by omega))
          replace oas := oas.below zwr18 (by omega)
          replace HC := HC.below' zwr18 (by omega)
          have hN2 : ∀ i, i < 3 → ∃ s, s ∈ [ByteArray.mk #[], ByteArray.mk #[119], ByteArray.mk #[114]] ∧ wr18.cell? ⟨w5.heap.size, i, none⟩ = some (.string s) := fun i hi => by
            obtain ⟨s9, h9, h8⟩ := hN i hi
            exact ⟨s9, h9, (zwr18.cell (p := ⟨w5.heap.size, i, none⟩) (by simp only []; omega)).trans h8⟩
          clear hN
          have hN := hN2
          clear hN2
          replace R_0 := bxc zwr18 R_0
          replace R_f0 := bxf zwr18 R_f0
          replace R_1 := bxc zwr18 R_1
          replace R_f1 := bxf zwr18 R_f1
          replace X_0 := bxc zwr18 X_0
          replace X_f0 := bxf zwr18 X_f0
          replace X_1 := bxc zwr18 X_1
          replace X_f1 := bxf zwr18 X_f1
          refine hK9.out _ _ trivial (fun hHeld => ?_)
          clear hK9 K9
          try simp only [Act.put, lgA, lgB, lgC, lgD, lgE, lgF]
          refine wpAnyH_ready (rs := [4]) (by kernel_rfl) (by simp) ?_
          refine AllReadyH.cons rfl (fun K9 hK9 => ?_) AllReadyH.nil
          go_simp
          refine (l1Pick_any wr18 cb ba bn bc _ 3 3 _ (by omega) (by omega) hN (by omega) HC).mono ?_
          rintro e wr19 ⟨nm, rfl, hnm, HC2, zk⟩
          have zwr19 := zk.turn
          have swr19 := zwr19.size
          have hnms : nm.size ≤ 5 := by
            simp only [List.mem_cons, List.not_mem_nil, or_false] at hnm
            rcases hnm with rfl | rfl | rfl <;> decide
          clear HC zk hnm hN
          have HC := HC2
          clear HC2
          replace hbx := hbx.trans zwr19
          replace oas := oas.turn zwr19 (by omega)
          replace oL := oL.turn zwr19 (by omega)
          replace R_0 := txc zwr19 R_0
          replace R_f0 := txf zwr19 R_f0
          replace R_1 := txc zwr19 R_1
          replace R_f1 := txf zwr19 R_f1
          replace X_0 := txc zwr19 X_0
          replace X_f0 := txf zwr19 X_f0
          replace X_1 := txc zwr19 X_1
          replace X_f1 := txf zwr19 X_f1
          refine hK9.out _ _ trivial (fun hHeld => ?_)
          clear hK9 K9
          try simp only [Act.put, lgA, lgB, lgC, lgD, lgE, lgF]
          refine wpAnyH_take (i := 6) (v := ?v6_21) rfl (by kernel_rfl) (by kernel_rfl) (by kernel_rfl) (fun _ _ _ h => h) (Or.inl ⟨by rfl, ?hy6_21⟩) (by assumption) ?rest6_21
          case hy6_21 => intro w hSw; (try dsimp only at hSw); go_simp; (try with_reducible rfl)
          try simp only [Act.put, lgA, lgB, lgC, lgD, lgE, lgF]
          refine wpAnyH_ready (rs := [7]) (by kernel_rfl) (by simp) ?_
          refine AllReadyH.cons rfl (fun K9 hK9 => ?_) AllReadyH.nil
          go_simp
          have oAt : Own oA wr13.heap.size (wr13.heap.size + 1) wr19 [.string nm, .slice (some ⟨wr13.heap.size, 0, none⟩) 1 1] (nm, [0]) := oA_mk (x := (nm, [0])) (show nm.size ≤ _ by omega) oL (Nat.le_refl _) (Nat.le_refl _)
          obtain ⟨na, nn, nc, wn, hrn, _, hzn, hzs, on_⟩ := own_atomT 27 oas oAt (by omega) (by omega) (by omega) (by omega) (by omega) rfl
          have x1r : (wr19.alloc (.cells #[.string nm, .slice (some ⟨wr13.heap.size, 0, none⟩) 1 1] 48)).cell? ⟨w2.heap.size, 1, none⟩ = some (.slice b y.2.length c) := (((Below.refl wr19.heap.size wr19).alloc (Nat.le_refl _) _).cell (p := ⟨w2.heap.size, 1, none⟩) (by simp only []; omega)).trans X_1
          refine hK9.out _ _ trivial (fun hHeld => ?_)
          clear hK9 K9
          try simp only [Act.put, lgA, lgB, lgC, lgD, lgE, lgF]
          refine wpAnyH_ready (rs := [8]) (by kernel_rfl) (by simp) ?_
          refine AllReadyH.cons rfl (fun K9 hK9 => ?_) AllReadyH.nil
          refine step_app2 hrn rfl rfl rfl rfl rfl ?_
          refine hK9.out _ _ trivial (fun hHeld => ?_)
          clear hK9 K9 x1r
          try simp only [Act.put, lgA, lgB, lgC, lgD, lgE, lgF]
          refine wpAnyH_take (i := 9) (v := ?v9_22) rfl (by kernel_rfl) (by kernel_rfl) (by kernel_rfl) (fun _ _ _ h => h) (Or.inl ⟨by rfl, ?hy9_22⟩) (by assumption) ?rest9_22
          case hy9_22 => intro w hSw; (try dsimp only at hSw); go_simp; (try with_reducible rfl)
          try simp only [Act.put, lgA, lgB, lgC, lgD, lgE, lgF]
          have zN := hzn.below (by omega)
          have sN := zN.size
          have hbN := turn_on' hbx (zN.mono (by omega))
          have r0 := bxc zN R_0
          have r1 := bxc zN R_1
          have rf0 := bxf zN R_f0
          have rf1 := bxf zN R_f1
          have x0 := txc hzn X_0
          have xf0 := txf hzn X_f0
          have x1 := txc hzn X_1
          have xf1 := txf hzn X_f1
          have HCN := HC.below' zN (by omega)
          clear R_0 R_f0 R_1 R_f1 X_0 X_f0 X_1 X_f1 HC oas oAt oL hzn zN
          refine wpAnyH_ready (rs := [10]) (by kernel_rfl) (by simp) ?_
          refine AllReadyH.cons rfl (fun K9 hK9 => ?_) AllReadyH.nil
          go_simp
          refine hK9.out _ _ trivial (fun hHeld => ?_)
          clear hK9 K9
          try simp only [Act.put, lgA, lgB, lgC, lgD, lgE, lgF]
          refine wpAnyH_done (by kernel_rfl) ?_ _
          refine NoPanic.normal ?_
          obtain ⟨zs, hzs9⟩ : ∃ q, y.2 ++ [(nm, [0])] = q := ⟨_, rfl⟩
          have hzl : zs.length = y.2.length + 1 := by rw [← hzs9, List.length_append]; rfl
          have hz3 : Hid (∀ a ∈ zs, a.2.length ≤ 3) := Lib.hid (by
            intro a ha
            rw [← hzs9] at ha
            rcases List.mem_append.1 ha with ha | ha
            · exact (hy3 a ha).2
            · simp only [List.mem_singleton] at ha
              subst ha
              exact (by decide : 1 ≤ 3))
          rw [hzs9] at on_
          obtain ⟨xn, hxn⟩ : ∃ q, q = wn.heap.size := ⟨_, rfl⟩
          rw [← hxn] at on_
          have oX := on_ ⟨w2.heap.size, 1, none⟩ (.slice na nn nc) (by simp only []; omega) (by simp only []; omega)
          clear hzs9 on_ hrn
          go_wp2_with fail
          refine bodyPost_ret (v := .agg #[.int .i64 y.1, .slice (na) nn nc]) (by simp [results, Tryz.results52, go_sem, r0, r1, rf0, rf1]) rfl ?_
          refine ⟨y.1, na, nn, nc, ((y.1, zs) : DQ), rfl, ?_, ⟨⟨by show 1 ≤ zs.length; omega, by show zs.length ≤ 5; omega⟩, hz3.out⟩, ?_, ?_⟩
          · refine Own.mono (lo := lo4) (hi := xn) ?_ (by omega) (by simp [World.setCell]; omega)
            repeat (refine own_off ?_ rfl (by simp only []; omega))
            exact (oQ_mk (x := (y.1, zs)) hI0 oX (Nat.le_refl _) (Nat.le_refl _))
          · refine Cur.below' (C := w.heap.size) HCN ?_ hcb
            repeat (refine Below.setCell ?_ (by simp only []; omega) _)
            exact Below.refl _ _
          · refine turn_on' hbN ?_
            repeat (refine Below.setCell ?_ (by simp only []; omega) _)
            exact Below.refl _ _
      · skip
        go_simp
        refine (l1Pick_any wr13 cb ba bn bc _ 3 3 _ (by omega) (by omega) hN (by omega) HC).mono ?_
        rintro e wr21 ⟨nm, rfl, hnm, HC2, zk⟩
        have zwr21 := zk.turn
        have swr21 := zwr21.size
        have hnms : nm.size ≤ 5 := by
          simp only [List.mem_cons, List.not_mem_nil, or_false] at hnm
          rcases hnm with rfl | rfl | rfl <;> decide
        clear HC zk hnm hN
        have HC := HC2
        clear HC2
        replace hbx := hbx.trans zwr21
        replace oas := oas.turn zwr21 (by omega)
        replace R_0 := txc zwr21 R_0
        replace R_f0 := txf zwr21 R_f0
        replace R_1 := txc zwr21 R_1
        replace R_f1 := txf zwr21 R_f1
        replace X_0 := txc zwr21 X_0
        replace X_f0 := txf zwr21 X_f0
        replace X_1 := txc zwr21 X_1
        replace X_f1 := txf zwr21 X_f1
        refine hK9.out _ _ trivial (fun hHeld => ?_)
        clear hK9 K9
        try simp only [Act.put, lgA, lgB, lgC, lgD, lgE, lgF]
        refine wpAnyH_ready (rs := [1, 5]) (by kernel_rfl) (by simp) ?_
        refine AllReadyH.cons rfl (fun K9 hK9 => ?_) (AllReadyH.cons rfl (fun K9 hK9 => ?_) AllReadyH.nil)
        · skip
          go_simp
          refine hK9.out _ _ trivial (fun hHeld => ?_)
          clear hK9 K9
          try simp only [Act.put, lgA, lgB, lgC, lgD, lgE, lgF]
          refine wpAnyH_ready (rs := [5]) (by kernel_rfl) (by simp) ?_
          refine AllReadyH.cons rfl (fun K9 hK9 => ?_) AllReadyH.nil
          go_simp
          have oL : Own oI wr21.heap.size (wr21.heap.size + 1) (wr21.alloc (.cells #[.int .i64 0] 3)) [.slice (some ⟨wr21.heap.size, 0, none⟩) 1 1] [0] := own_lit1 (W := wr21) (by constructor <;> decide)
          obtain ⟨wr23, hwwr23⟩ : ∃ W, W = wr21.alloc (.cells #[.int .i64 0] 3) := ⟨_, rfl⟩
          rw [← hwwr23] at oL ⊢
          have zwr23 : Below wr21.heap.size wr21 wr23 := by rw [hwwr23]; exact (Below.refl _ _).alloc (Nat.le_refl _) _
          have swr23 : wr21.heap.size + 1 ≤ wr23.heap.size := by rw [hwwr23]; simp
          clear hwwr23
          obtain ⟨gL, hgL⟩ : ∃ q, q = wr21.heap.size := ⟨_, rfl⟩
          replace hbx := turn_on' hbx (zwr23.mono (by omega))
          replace oas := oas.below zwr23 (by omega)
          replace HC := HC.below' zwr23 (by omega)
          replace R_0 := bxc zwr23 R_0
          replace R_f0 := bxf zwr23 R_f0
          replace R_1 := bxc zwr23 R_1
          replace R_f1 := bxf zwr23 R_f1
          replace X_0 := bxc zwr23 X_0
          replace X_f0 := bxf zwr23 X_f0
          replace X_1 := bxc zwr23 X_1
          replace X_f1 := bxf zwr23 X_f1
          refine hK9.out _ _ trivial (fun hHeld => ?_)
          clear hK9 K9
          try simp only [Act.put, lgA, lgB, lgC, lgD, lgE, lgF]
          refine wpAnyH_take (i := 6) (v := ?v6_23) rfl (by kernel_rfl) (by kernel_rfl) (by kernel_rfl) (fun _ _ _ h => h) (Or.inl ⟨by rfl, ?hy6_23⟩) (by assumption) ?rest6_23
          case hy6_23 => intro w hSw; (try dsimp only at hSw); go_simp; (try with_reducible rfl)
          try simp only [Act.put, lgA, lgB, lgC, lgD, lgE, lgF]
          refine wpAnyH_ready (rs := [7]) (by kernel_rfl) (by simp) ?_
          refine AllReadyH.cons rfl (fun K9 hK9 => ?_) AllReadyH.nil
          go_simp
          have oAt : Own oA wr21.heap.size (wr21.heap.size + 1) wr23 [.string nm, .slice (some ⟨wr21.heap.size, 0, none⟩) 1 1] (nm, [0]) := oA_mk (x := (nm, [0])) (show nm.size ≤ _ by omega) oL (Nat.le_refl _) (Nat.le_refl _)
          obtain ⟨na, nn, nc, wn, hrn, _, hzn, hzs, on_⟩ := own_atomT 27 oas oAt (by omega) (by omega) (by omega) (by omega) (by omega) rfl
          have x1r : (wr23.alloc (.cells #[.string nm, .slice (some ⟨wr21.heap.size, 0, none⟩) 1 1] 48)).cell? ⟨w2.heap.size, 1, none⟩ = some (.slice b y.2.length c) := (((Below.refl wr23.heap.size wr23).alloc (Nat.le_refl _) _).cell (p := ⟨w2.heap.size, 1, none⟩) (by simp only []; omega)).trans X_1
          refine hK9.out _ _ trivial (fun hHeld => ?_)
          clear hK9 K9
          try simp only [Act.put, lgA, lgB, lgC, lgD, lgE, lgF]
          refine wpAnyH_ready (rs := [8]) (by kernel_rfl) (by simp) ?_
          refine AllReadyH.cons rfl (fun K9 hK9 => ?_) AllReadyH.nil
          refine step_app2 hrn rfl rfl rfl rfl rfl ?_
          refine hK9.out _ _ trivial (fun hHeld => ?_)
          clear hK9 K9 x1r
          try simp only [Act.put, lgA, lgB, lgC, lgD, lgE, lgF]
          refine wpAnyH_take (i := 9) (v := ?v9_24) rfl (by kernel_rfl) (by kernel_rfl) (by kernel_rfl) (fun _ _ _ h => h) (Or.inl ⟨by rfl, ?hy9_24⟩) (by assumption) ?rest9_24
          case hy9_24 => intro w hSw; (try dsimp only at hSw); go_simp; (try with_reducible rfl)
          try simp only [Act.put, lgA, lgB, lgC, lgD, lgE, lgF]
          have zN := hzn.below (by omega)
          have sN := zN.size
          have hbN := turn_on' hbx (zN.mono (by omega))
          have r0 := bxc zN R_0
          have r1 := bxc zN R_1
          have rf0 := bxf zN R_f0
          have rf1 := bxf zN R_f1
          have x0 := txc hzn X_0
          have xf0 := txf hzn X_f0
          have x1 := txc hzn X_1
          have xf1 := txf hzn X_f1
          have HCN := HC.below' zN (by omega)
          clear R_0 R_f0 R_1 R_f1 X_0 X_f0 X_1 X_f1 HC oas oAt oL hzn zN
          refine wpAnyH_ready (rs := [10]) (by kernel_rfl) (by simp) ?_
          refine AllReadyH.cons rfl (fun K9 hK9 => ?_) AllReadyH.nil
          go_simp
          refine hK9.out _ _ trivial (fun hHeld => ?_)
          clear hK9 K9
          try simp only [Act.put, lgA, lgB, lgC, lgD, lgE, lgF]
          refine wpAnyH_done (by kernel_rfl) ?_ _
          refine NoPanic.normal ?_
          obtain ⟨zs, hzs9⟩ : ∃ q, y.2 ++ [(nm, [0])] = q := ⟨_, rfl⟩
          have hzl : zs.length = y.2.length + 1 := by rw [← hzs9, List.length_append]; rfl
          have hz3 : Hid (∀ a ∈ zs, a.2.length ≤ 3) := Lib.hid (by
            intro a ha
            rw [← hzs9] at ha
            rcases List.mem_append.1 ha with ha | ha
            · exact (hy3 a ha).2
            · simp only [List.mem_singleton] at ha
              subst ha
              exact (by decide : 1 ≤ 3))
          rw [hzs9] at on_
          obtain ⟨xn, hxn⟩ : ∃ q, q = wn.heap.size := ⟨_, rfl⟩
          rw [← hxn] at on_
          have oX := on_ ⟨w2.heap.size, 1, none⟩ (.slice na nn nc) (by simp only []; omega) (by simp only []; omega)
          clear hzs9 on_ hrn
          go_wp2_with fail
          refine bodyPost_ret (v := .agg #[.int .i64 y.1, .slice (na) nn nc]) (by simp [results, Tryz.results52, go_sem, r0, r1, rf0, rf1]) rfl ?_
          refine ⟨y.1, na, nn, nc, ((y.1, zs) : DQ), rfl, ?_, ⟨⟨by show 1 ≤ zs.length; omega, by show zs.length ≤ 5; omega⟩, hz3.out⟩, ?_, ?_⟩
          · refine Own.mono (lo := lo4) (hi := xn) ?_ (by omega) (by simp [World.setCell]; omega)
            repeat (refine own_off ?_ rfl (by simp only []; omega))
            exact (oQ_mk (x := (y.1, zs)) hI0 oX (Nat.le_refl _) (Nat.le_refl _))
          · refine Cur.below' (C := w.heap.size) HCN ?_ hcb
            repeat (refine Below.setCell ?_ (by simp only []; omega) _)
            exact Below.refl _ _
          · refine turn_on' hbN ?_
            repeat (refine Below.setCell ?_ (by simp only []; omega) _)
            exact Below.refl _ _
        · skip
          go_simp
          have oL : Own oI wr21.heap.size (wr21.heap.size + 1) (wr21.alloc (.cells #[.int .i64 0] 3)) [.slice (some ⟨wr21.heap.size, 0, none⟩) 1 1] [0] := own_lit1 (W := wr21) (by constructor <;> decide)
          obtain ⟨wr25, hwwr25⟩ : ∃ W, W = wr21.alloc (.cells #[.int .i64 0] 3) := ⟨_, rfl⟩
          rw [← hwwr25] at oL ⊢
          have zwr25 : Below wr21.heap.size wr21 wr25 := by rw [hwwr25]; exact (Below.refl _ _).alloc (Nat.le_refl _) _
          have swr25 : wr21.heap.size + 1 ≤ wr25.heap.size := by rw [hwwr25]; simp
          clear hwwr25
          obtain ⟨gL, hgL⟩ : ∃ q, q = wr21.heap.size := ⟨_, rfl⟩
          replace hbx := turn_on' hbx (zwr25.mono (by omega))
          replace oas := oas.below zwr25 (by omega)
          replace HC := HC.below' zwr25 (by omega)
          replace R_0 := bxc zwr25 R_0
          replace R_f0 := bxf zwr25 R_f0
          replace R_1 := bxc zwr25 R_1
          replace R_f1 := bxf zwr25 R_f1
          replace X_0 := bxc zwr25 X_0
          replace X_f0 := bxf zwr25 X_f0
          replace X_1 := bxc zwr25 X_1
          replace X_f1 := bxf zwr25 X_f1
          refine hK9.out _ _ trivial (fun hHeld => ?_)
          clear hK9 K9
          try simp only [Act.put, lgA, lgB, lgC, lgD, lgE, lgF]
          refine wpAnyH_take (i := 6) (v := ?v6_25) rfl (by kernel_rfl) (by kernel_rfl) (by kernel_rfl) (fun _ _ _ h => h) (Or.inl ⟨by rfl, ?hy6_25⟩) (by assumption) ?rest6_25
          case hy6_25 => intro w hSw; (try dsimp only at hSw); go_simp; (try with_reducible rfl)
          try simp only [Act.put, lgA, lgB, lgC, lgD, lgE, lgF]
          refine wpAnyH_ready (rs := [1, 7]) (by kernel_rfl) (by simp) ?_
          refine AllReadyH.cons rfl (fun K9 hK9 => ?_) (AllReadyH.cons rfl (fun K9 hK9 => ?_) AllReadyH.nil)
          · skip
            go_simp
            refine hK9.out _ _ trivial (fun hHeld => ?_)
            clear hK9 K9
            try simp only [Act.put, lgA, lgB, lgC, lgD, lgE, lgF]
            refine wpAnyH_ready (rs := [7]) (by kernel_rfl) (by simp) ?_
            refine AllReadyH.cons rfl (fun K9 hK9 => ?_) AllReadyH.nil
            go_simp
            have oAt : Own oA wr21.heap.size (wr21.heap.size + 1) wr25 [.string nm, .slice (some ⟨wr21.heap.size, 0, none⟩) 1 1] (nm, [0]) := oA_mk (x := (nm, [0])) (show nm.size ≤ _ by omega) oL (Nat.le_refl _) (Nat.le_refl _)
            obtain ⟨na, nn, nc, wn, hrn, _, hzn, hzs, on_⟩ := own_atomT 27 oas oAt (by omega) (by omega) (by omega) (by omega) (by omega) rfl
            have x1r : (wr25.alloc (.cells #[.string nm, .slice (some ⟨wr21.heap.size, 0, none⟩) 1 1] 48)).cell? ⟨w2.heap.size, 1, none⟩ = some (.slice b y.2.length c) := (((Below.refl wr25.heap.size wr25).alloc (Nat.le_refl _) _).cell (p := ⟨w2.heap.size, 1, none⟩) (by simp only []; omega)).trans X_1
            refine hK9.out _ _ trivial (fun hHeld => ?_)
            clear hK9 K9
            try simp only [Act.put, lgA, lgB, lgC, lgD, lgE, lgF]
            refine wpAnyH_ready (rs := [8]) (by kernel_rfl) (by simp) ?_
            refine AllReadyH.cons rfl (fun K9 hK9 => ?_) AllReadyH.nil
            refine step_app2 hrn rfl rfl rfl rfl rfl ?_
            refine hK9.out _ _ trivial (fun hHeld => ?_)
            clear hK9 K9 x1r
            try simp only [Act.put, lgA, lgB, lgC, lgD, lgE, lgF]
            refine wpAnyH_take (i := 9) (v := ?v9_26) rfl (by kernel_rfl) (by kernel_rfl) (by kernel_rfl) (fun _ _ _ h => h) (Or.inl ⟨by rfl, ?hy9_26⟩) (by assumption) ?rest9_26
            case hy9_26 => intro w hSw; (try dsimp only at hSw); go_simp; (try with_reducible rfl)
            try simp only [Act.put, lgA, lgB, lgC, lgD, lgE, lgF]
            have zN := hzn.below (by omega)
            have sN := zN.size
            have hbN := turn_on' hbx (zN.mono (by omega))
            have r0 := bxc zN R_0
            have r1 := bxc zN R_1
            have rf0 := bxf zN R_f0
            have rf1 := bxf zN R_f1
            have x0 := txc hzn X_0
            have xf0 := txf hzn X_f0
            have x1 := txc hzn X_1
            have xf1 := txf hzn X_f1
            have HCN := HC.below' zN (by omega)
            clear R_0 R_f0 R_1 R_f1 X_0 X_f0 X_1 X_f1 HC oas oAt oL hzn zN
            refine wpAnyH_ready (rs := [10]) (by kernel_rfl) (by simp) ?_
            refine AllReadyH.cons rfl (fun K9 hK9 => ?_) AllReadyH.nil
            go_simp
            refine hK9.out _ _ trivial (fun hHeld => ?_)
            clear hK9 K9
            try simp only [Act.put, lgA, lgB, lgC, lgD, lgE, lgF]
            refine wpAnyH_done (by kernel_rfl) ?_ _
            refine NoPanic.normal ?_
            obtain ⟨zs, hzs9⟩ : ∃ q, y.2 ++ [(nm, [0])] = q := ⟨_, rfl⟩
            have hzl : zs.length = y.2.length + 1 := by rw [← hzs9, List.length_append]; rfl
            have hz3 : Hid (∀ a ∈ zs, a.2.length ≤ 3) := Lib.hid (by
              intro a ha
              rw [← hzs9] at ha
              rcases List.mem_append.1 ha with ha | ha
              · exact (hy3 a ha).2
              · simp only [List.mem_singleton] at ha
                subst ha
                exact (by decide : 1 ≤ 3))
            rw [hzs9] at on_
            obtain ⟨xn, hxn⟩ : ∃ q, q = wn.heap.size := ⟨_, rfl⟩
            rw [← hxn] at on_
            have oX := on_ ⟨w2.heap.size, 1, none⟩ (.slice na nn nc) (by simp only []; omega) (by simp only []; omega)
            clear hzs9 on_ hrn
            go_wp2_with fail
            refine bodyPost_ret (v := .agg #[.int .i64 y.1, .slice (na) nn nc]) (by simp [results, Tryz.results52, go_sem, r0, r1, rf0, rf1]) rfl ?_
            refine ⟨y.1, na, nn, nc, ((y.1, zs) : DQ), rfl, ?_, ⟨⟨by show 1 ≤ zs.length; omega, by show zs.length ≤ 5; omega⟩, hz3.out⟩, ?_, ?_⟩
            · refine Own.mono (lo := lo4) (hi := xn) ?_ (by omega) (by simp [World.setCell]; omega)
              repeat (refine own_off ?_ rfl (by simp only []; omega))
              exact (oQ_mk (x := (y.1, zs)) hI0 oX (Nat.le_refl _) (Nat.le_refl _))
            · refine Cur.below' (C := w.heap.size) HCN ?_ hcb
              repeat (refine Below.setCell ?_ (by simp only []; omega) _)
              exact Below.refl _ _
            · refine turn_on' hbN ?_
              repeat (refine Below.setCell ?_ (by simp only []; omega) _)
              exact Below.refl _ _
          · skip
            go_simp
            have oAt : Own oA wr21.heap.size (wr21.heap.size + 1) wr25 [.string nm, .slice (some ⟨wr21.heap.size, 0, none⟩) 1 1] (nm, [0]) := oA_mk (x := (nm, [0])) (show nm.size ≤ _ by omega) oL (Nat.le_refl _) (Nat.le_refl _)
            obtain ⟨na, nn, nc, wn, hrn, _, hzn, hzs, on_⟩ := own_atomT 27 oas oAt (by omega) (by omega) (by omega) (by omega) (by omega) rfl
            have x1r : (wr25.alloc (.cells #[.string nm, .slice (some ⟨wr21.heap.size, 0, none⟩) 1 1] 48)).cell? ⟨w2.heap.size, 1, none⟩ = some (.slice b y.2.length c) := (((Below.refl wr25.heap.size wr25).alloc (Nat.le_refl _) _).cell (p := ⟨w2.heap.size, 1, none⟩) (by simp only []; omega)).trans X_1
            refine hK9.out _ _ trivial (fun hHeld => ?_)
            clear hK9 K9
            try simp only [Act.put, lgA, lgB, lgC, lgD, lgE, lgF]
            refine wpAnyH_ready (rs := [1]) (by kernel_rfl) (by simp) ?_
            refine AllReadyH.cons rfl (fun K9 hK9 => ?_) AllReadyH.nil
            go_simp
            refine hK9.out _ _ trivial (fun hHeld => ?_)
            clear hK9 K9
            try simp only [Act.put, lgA, lgB, lgC, lgD, lgE, lgF]
            refine wpAnyH_ready (rs := [8]) (by kernel_rfl) (by simp) ?_
            refine AllReadyH.cons rfl (fun K9 hK9 => ?_) AllReadyH.nil
            refine step_app2 hrn rfl rfl rfl rfl rfl ?_
            refine hK9.out _ _ trivial (fun hHeld => ?_)
            clear hK9 K9 x1r
            try simp only [Act.put, lgA, lgB, lgC, lgD, lgE, lgF]
            refine wpAnyH_take (i := 9) (v := ?v9_27) rfl (by kernel_rfl) (by kernel_rfl) (by kernel_rfl) (fun _ _ _ h => h) (Or.inl ⟨by rfl, ?hy9_27⟩) (by assumption) ?rest9_27
            case hy9_27 => intro w hSw; (try dsimp only at hSw); go_simp; (try with_reducible rfl)
            try simp only [Act.put, lgA, lgB, lgC, lgD, lgE, lgF]
            have zN := hzn.below (by omega)
            have sN := zN.size
            have hbN := turn_on' hbx (zN.mono (by omega))
            have r0 := bxc zN R_0
            have r1 := bxc zN R_1
            have rf0 := bxf zN R_f0
            have rf1 := bxf zN R_f1
            have x0 := txc hzn X_0
            have xf0 := txf hzn X_f0
            have x1 := txc hzn X_1
            have xf1 := txf hzn X_f1
            have HCN := HC.below' zN (by omega)
            clear R_0 R_f0 R_1 R_f1 X_0 X_f0 X_1 X_f1 HC oas oAt oL hzn zN
            refine wpAnyH_ready (rs := [10]) (by kernel_rfl) (by simp) ?_
            refine AllReadyH.cons rfl (fun K9 hK9 => ?_) AllReadyH.nil
            go_simp
            refine hK9.out _ _ trivial (fun hHeld => ?_)
            clear hK9 K9
            try simp only [Act.put, lgA, lgB, lgC, lgD, lgE, lgF]
            refine wpAnyH_done (by kernel_rfl) ?_ _
            refine NoPanic.normal ?_
            obtain ⟨zs, hzs9⟩ : ∃ q, y.2 ++ [(nm, [0])] = q := ⟨_, rfl⟩
            have hzl : zs.length = y.2.length + 1 := by rw [← hzs9, List.length_append]; rfl
            have hz3 : Hid (∀ a ∈ zs, a.2.length ≤ 3) := Lib.hid (by
              intro a ha
              rw [← hzs9] at ha
              rcases List.mem_append.1 ha with ha | ha
              · exact (hy3 a ha).2
              · simp only [List.mem_singleton] at ha
                subst ha
                exact (by decide : 1 ≤ 3))
            rw [hzs9] at on_
            obtain ⟨xn, hxn⟩ : ∃ q, q = wn.heap.size := ⟨_, rfl⟩
            rw [← hxn] at on_
            have oX := on_ ⟨w2.heap.size, 1, none⟩ (.slice na nn nc) (by simp only []; omega) (by simp only []; omega)
            clear hzs9 on_ hrn
            go_wp2_with fail
            refine bodyPost_ret (v := .agg #[.int .i64 y.1, .slice (na) nn nc]) (by simp [results, Tryz.results52, go_sem, r0, r1, rf0, rf1]) rfl ?_
            refine ⟨y.1, na, nn, nc, ((y.1, zs) : DQ), rfl, ?_, ⟨⟨by show 1 ≤ zs.length; omega, by show zs.length ≤ 5; omega⟩, hz3.out⟩, ?_, ?_⟩
            · refine Own.mono (lo := lo4) (hi := xn) ?_ (by omega) (by simp [World.setCell]; omega)
              repeat (refine own_off ?_ rfl (by simp only []; omega))
              exact (oQ_mk (x := (y.1, zs)) hI0 oX (Nat.le_refl _) (Nat.le_refl _))
            · refine Cur.below' (C := w.heap.size) HCN ?_ hcb
              repeat (refine Below.setCell ?_ (by simp only []; omega) _)
              exact Below.refl _ _
            · refine turn_on' hbN ?_
              repeat (refine Below.setCell ?_ (by simp only []; omega) _)
              exact Below.refl _ _
      · skip
        go_simp
        have oL : Own oI wr13.heap.size (wr13.heap.size + 1) (wr13.alloc (.cells #[.int .i64 0] 3)) [.slice (some ⟨wr13.heap.size, 0, none⟩) 1 1] [0] := own_lit1 (W := wr13) (by constructor <;> decide)
        obtain ⟨wr30, hwwr30⟩ : ∃ W, W = wr13.alloc (.cells #[.int .i64 0] 3) := ⟨_, rfl⟩
        rw [← hwwr30] at oL ⊢
        have zwr30 : Below wr13.heap.size wr13 wr30 := by rw [hwwr30]; exact (Below.refl _ _).alloc (Nat.le_refl _) _
        have swr30 : wr13.heap.size + 1 ≤ wr30.heap.size := by rw [hwwr30]; simp
        clear hwwr30
        obtain ⟨gL, hgL⟩ : ∃ q, q = wr13.heap.size := ⟨_, rfl⟩
        replace hbx := turn_on' hbx (zwr30.mono (by omega))
        replace oas := oas.below zwr30 (by omega)
        replace HC := HC.below' zwr30 (by omega)
        have hN2 : ∀ i, i < 3 → ∃ s, s ∈ [ByteArray.mk #[], ByteArray.mk #[119], ByteArray.mk #[114]] ∧ wr30.cell? ⟨w5.heap.size, i, none⟩ = some (.string s) := fun i hi => by
          obtain ⟨s9, h9, h8⟩ := hN i hi
          exact ⟨s9, h9, (zwr30.cell (p := ⟨w5.heap.size, i, none⟩) (by simp only []; omega)).trans h8⟩
        clear hN
        have hN := hN2
        clear hN2
        replace R_0 := bxc zwr30 R_0
        replace R_f0 := bxf zwr30 R_f0
        replace R_1 := bxc zwr30 R_1
        replace R_f1 := bxf zwr30 R_f1
        replace X_0 := bxc zwr30 X_0
        replace X_f0 := bxf zwr30 X_f0
        replace X_1 := bxc zwr30 X_1
        replace X_f1 := bxf zwr30 X_f1
        refine hK9.out _ _ trivial (fun hHeld => ?_)
        clear hK9 K9
        try simp only [Act.put, lgA, lgB, lgC, lgD, lgE, lgF]
        refine wpAnyH_ready (rs := [1, 4]) (by kernel_rfl) (by simp) ?_
        refine AllReadyH.cons rfl (fun K9 hK9 => ?_) (AllReadyH.cons rfl (fun K9 hK9 => ?_) AllReadyH.nil)
        · skip
          go_simp
          refine hK9.out _ _ trivial (fun hHeld => ?_)
          clear hK9 K9
          try simp only [Act.put, lgA, lgB, lgC, lgD, lgE, lgF]
          refine wpAnyH_ready (rs := [4]) (by kernel_rfl) (by simp) ?_
          refine AllReadyH.cons rfl (fun K9 hK9 => ?_) AllReadyH.nil
          go_simp
          refine (l1Pick_any wr30 cb ba bn bc _ 3 3 _ (by omega) (by omega) hN (by omega) HC).mono ?_
          rintro e wr32 ⟨nm, rfl, hnm, HC2, zk⟩
          have zwr32 := zk.turn
          have swr32 := zwr32.size
          have hnms : nm.size ≤ 5 := by
            simp only [List.mem_cons, List.not_mem_nil, or_false] at hnm
            rcases hnm with rfl | rfl | rfl <;> decide
          clear HC zk hnm hN
          have HC := HC2
          clear HC2
          replace hbx := hbx.trans zwr32
          replace oas := oas.turn zwr32 (by omega)
          replace oL := oL.turn zwr32 (by omega)
          replace R_0 := txc zwr32 R_0
          replace R_f0 := txf zwr32 R_f0
          replace R_1 := txc zwr32 R_1
          replace R_f1 := txf zwr32 R_f1
          replace X_0 := txc zwr32 X_0
          replace X_f0 := txf zwr32 X_f0
          replace X_1 := txc zwr32 X_1
          replace X_f1 := txf zwr32 X_f1
          refine hK9.out _ _ trivial (fun hHeld => ?_)
          clear hK9 K9
          try simp only [Act.put, lgA, lgB, lgC, lgD, lgE, lgF]
          refine wpAnyH_take (i := 6) (v := ?v6_28) rfl (by kernel_rfl) (by kernel_rfl) (by kernel_rfl) (fun _ _ _ h => h) (Or.inl ⟨by rfl, ?hy6_28⟩) (by assumption) ?rest6_28
          case hy6_28 => intro w hSw; (try dsimp only at hSw); go_simp; (try with_reducible rfl)
          try simp only [Act.put, lgA, lgB, lgC, lgD, lgE, lgF]
          refine wpAnyH_ready (rs := [7]) (by kernel_rfl) (by simp) ?_
          refine AllReadyH.cons rfl (fun K9 hK9 => ?_) AllReadyH.nil
          go_simp
          have oAt : Own oA wr13.heap.size (wr13.heap.size + 1) wr32 [.string nm, .slice (some ⟨wr13.heap.size, 0, none⟩) 1 1] (nm, [0]) := oA_mk (x := (nm, [0])) (show nm.size ≤ _ by omega) oL (Nat.le_refl _) (Nat.le_refl _)
          obtain ⟨na, nn, nc, wn, hrn, _, hzn, hzs, on_⟩ := own_atomT 27 oas oAt (by omega) (by omega) (by omega) (by omega) (by omega) rfl
          have x1r : (wr32.alloc (.cells #[.string nm, .slice (some ⟨wr13.heap.size, 0, none⟩) 1 1] 48)).cell? ⟨w2.heap.size, 1, none⟩ = some (.slice b y.2.length c) := (((Below.refl wr32.heap.size wr32).alloc (Nat.le_refl _) _).cell (p := ⟨w2.heap.size, 1, none⟩) (by simp only []; omega)).trans X_1
          refine hK9.out _ _ trivial (fun hHeld => ?_)
          clear hK9 K9
          try simp only [Act.put, lgA, lgB, lgC, lgD, lgE, lgF]
          refine wpAnyH_ready (rs := [8]) (by kernel_rfl) (by simp) ?_
          refine AllReadyH.cons rfl (fun K9 hK9 => ?_) AllReadyH.nil
          refine step_app2 hrn rfl rfl rfl rfl rfl ?_
          refine hK9.out _ _ trivial (fun hHeld => ?_)
          clear hK9 K9 x1r
          try simp only [Act.put, lgA, lgB, lgC, lgD, lgE, lgF]
          refine wpAnyH_take (i := 9) (v := ?v9_29) rfl (by kernel_rfl) (by kernel_rfl) (by kernel_rfl) (fun _ _ _ h => h) (Or.inl ⟨by rfl, ?hy9_29⟩) (by assumption) ?rest9_29
          case hy9_29 => intro w hSw; (try dsimp only at hSw); go_simp; (try with_reducible rfl)
          try simp only [Act.put, lgA, lgB, lgC, lgD, lgE, lgF]
          have zN := hzn.below (by omega)
          have sN := zN.size
          have hbN := turn_on' hbx (zN.mono (by omega))
          have r0 := bxc zN R_0
          have r1 := bxc zN R_1
          have rf0 := bxf zN R_f0
          have rf1 := bxf zN R_f1
          have x0 := txc hzn X_0
          have xf0 := txf hzn X_f0
          have x1 := txc hzn X_1
          have xf1 := txf hzn X_f1
          have HCN := HC.below' zN (by omega)
          clear R_0 R_f0 R_1 R_f1 X_0 X_f0 X_1 X_f1 HC oas oAt oL hzn zN
          refine wpAnyH_ready (rs := [10]) (by kernel_rfl) (by simp) ?_
          refine AllReadyH.cons rfl (fun K9 hK9 => ?_) AllReadyH.nil
          go_simp
          refine hK9.out _ _ trivial (fun hHeld => ?_)
          clear hK9 K9
          try simp only [Act.put, lgA, lgB, lgC, lgD, lgE, lgF]
          refine wpAnyH_done (by kernel_rfl) ?_ _
          refine NoPanic.normal ?_
          obtain ⟨zs, hzs9⟩ : ∃ q, y.2 ++ [(nm, [0])] = q := ⟨_, rfl⟩
          have hzl : zs.length = y.2.length + 1 := by rw [← hzs9, List.length_append]; rfl
          have hz3 : Hid (∀ a ∈ zs, a.2.length ≤ 3) := Lib.hid (by
            intro a ha
            rw [← hzs9] at ha
            rcases List.mem_append.1 ha with ha | ha
            · exact (hy3 a ha).2
            · simp only [List.mem_singleton] at ha
              subst ha
              exact (by decide : 1 ≤ 3))
          rw [hzs9] at on_
          obtain ⟨xn, hxn⟩ : ∃ q, q = wn.heap.size := ⟨_, rfl⟩
          rw [← hxn] at on_
          have oX := on_ ⟨w2.heap.size, 1, none⟩ (.slice na nn nc) (by simp only []; omega) (by simp only []; omega)
          clear hzs9 on_ hrn
          go_wp2_with fail
          refine bodyPost_ret (v := .agg #[.int .i64 y.1, .slice (na) nn nc]) (by simp [results, Tryz.results52, go_sem, r0, r1, rf0, rf1]) rfl ?_
          refine ⟨y.1, na, nn, nc, ((y.1, zs) : DQ), rfl, ?_, ⟨⟨by show 1 ≤ zs.length; omega, by show zs.length ≤ 5; omega⟩, hz3.out⟩, ?_, ?_⟩
          · refine Own.mono (lo := lo4) (hi := xn) ?_ (by omega) (by simp [World.setCell]; omega)
            repeat (refine own_off ?_ rfl (by simp only []; omega))
            exact (oQ_mk (x := (y.1, zs)) hI0 oX (Nat.le_refl _) (Nat.le_refl _))
          · refine Cur.below' (C := w.heap.size) HCN ?_ hcb
            repeat (refine Below.setCell ?_ (by simp only []; omega) _)
            exact Below.refl _ _
          · refine turn_on' hbN ?_
            repeat (refine Below.setCell ?_ (by simp only []; omega) _)
            exact Below.refl _ _
        · skip
          go_simp
          refine (l1Pick_any wr30 cb ba bn bc _ 3 3 _ (by omega) (by omega) hN (by omega) HC).mono ?_
          rintro e wr34 ⟨nm, rfl, hnm, HC2, zk⟩
          have zwr34 := zk.turn
          have swr34 := zwr34.size
          have hnms : nm.size ≤ 5 := by
            simp only [List.mem_cons, List.not_mem_nil, or_false] at hnm
            rcases hnm with rfl | rfl | rfl <;> decide
          clear HC zk hnm hN
          have HC := HC2
          clear HC2
          replace hbx := hbx.trans zwr34
          replace oas := oas.turn zwr34 (by omega)
          replace oL := oL.turn zwr34 (by omega)
          replace R_0 := txc zwr34 R_0
          replace R_f0 := txf zwr34 R_f0
          replace R_1 := txc zwr34 R_1
          replace R_f1 := txf zwr34 R_f1
          replace X_0 := txc zwr34 X_0
          replace X_f0 := txf zwr34 X_f0
          replace X_1 := txc zwr34 X_1
          replace X_f1 := txf zwr34 X_f1
          refine hK9.out _ _ trivial (fun hHeld => ?_)
          clear hK9 K9
          try simp only [Act.put, lgA, lgB, lgC, lgD, lgE, lgF]
          refine wpAnyH_take (i := 6) (v := ?v6_30) rfl (by kernel_rfl) (by kernel_rfl) (by kernel_rfl) (fun _ _ _ h => h) (Or.inl ⟨by rfl, ?hy6_30⟩) (by assumption) ?rest6_30
          case hy6_30 => intro w hSw; (try dsimp only at hSw); go_simp; (try with_reducible rfl)
          try simp only [Act.put, lgA, lgB, lgC, lgD, lgE, lgF]
          refine wpAnyH_ready (rs := [1, 7]) (by kernel_rfl) (by simp) ?_
          refine AllReadyH.cons rfl (fun K9 hK9 => ?_) (AllReadyH.cons rfl (fun K9 hK9 => ?_) AllReadyH.nil)
          · skip
            go_simp
            refine hK9.out _ _ trivial (fun hHeld => ?_)
            clear hK9 K9
            try simp only [Act.put, lgA, lgB, lgC, lgD, lgE, lgF]
            refine wpAnyH_ready (rs := [7]) (by kernel_rfl) (by simp) ?_
            refine AllReadyH.cons rfl (fun K9 hK9 => ?_) AllReadyH.nil
            go_simp
            have oAt : Own oA wr13.heap.size (wr13.heap.size + 1) wr34 [.string nm, .slice (some ⟨wr13.heap.size, 0, none⟩) 1 1] (nm, [0]) := oA_mk (x := (nm, [0])) (show nm.size ≤ _ by omega) oL (Nat.le_refl _) (Nat.le_refl _)
            obtain ⟨na, nn, nc, wn, hrn, _, hzn, hzs, on_⟩ := own_atomT 27 oas oAt (by omega) (by omega) (by omega) (by omega) (by omega) rfl
            have x1r : (wr34.alloc (.cells #[.string nm, .slice (some ⟨wr13.heap.size, 0, none⟩) 1 1] 48)).cell? ⟨w2.heap.size, 1, none⟩ = some (.slice b y.2.length c) := (((Below.refl wr34.heap.size wr34).alloc (Nat.le_refl _) _).cell (p := ⟨w2.heap.size, 1, none⟩) (by simp only []; omega)).trans X_1
            refine hK9.out _ _ trivial (fun hHeld => ?_)
            clear hK9 K9
            try simp only [Act.put, lgA, lgB, lgC, lgD, lgE, lgF]
            refine wpAnyH_ready (rs := [8]) (by kernel_rfl) (by simp) ?_
            refine AllReadyH.cons rfl (fun K9 hK9 => ?_) AllReadyH.nil
            refine step_app2 hrn rfl rfl rfl rfl rfl ?_
            refine hK9.out _ _ trivial (fun hHeld => ?_)
            clear hK9 K9 x1r
            try simp only [Act.put, lgA, lgB, lgC, lgD, lgE, lgF]
            refine wpAnyH_take (i := 9) (v := ?v9_31) rfl (by kernel_rfl) (by kernel_rfl) (by kernel_rfl) (fun _ _ _ h => h) (Or.inl ⟨by rfl, ?hy9_31⟩) (by assumption) ?rest9_31
            case hy9_31 => intro w hSw; (try dsimp only at hSw); go_simp; (try with_reducible rfl)
            try simp only [Act.put, lgA, lgB, lgC, lgD, lgE, lgF]
            have zN := hzn.below (by omega)
            have sN := zN.size
            have hbN := turn_on' hbx (zN.mono (by omega))
            have r0 := bxc zN R_0
            have r1 := bxc zN R_1
            have rf0 := bxf zN R_f0
            have rf1 := bxf zN R_f1
            have x0 := txc hzn X_0
            have xf0 := txf hzn X_f0
            have x1 := txc hzn X_1
            have xf1 := txf hzn X_f1
            have HCN := HC.below' zN (by omega)
            clear R_0 R_f0 R_1 R_f1 X_0 X_f0 X_1 X_f1 HC oas oAt oL hzn zN
            refine wpAnyH_ready (rs := [10]) (by kernel_rfl) (by simp) ?_
            refine AllReadyH.cons rfl (fun K9 hK9 => ?_) AllReadyH.nil
            go_simp
            refine hK9.out _ _ trivial (fun hHeld => ?_)
            clear hK9 K9
            try simp only [Act.put, lgA, lgB, lgC, lgD, lgE, lgF]
            refine wpAnyH_done (by kernel_rfl) ?_ _
            refine NoPanic.normal ?_
            obtain ⟨zs, hzs9⟩ : ∃ q, y.2 ++ [(nm, [0])] = q := ⟨_, rfl⟩
            have hzl : zs.length = y.2.length + 1 := by rw [← hzs9, List.length_append]; rfl
            have hz3 : Hid (∀ a ∈ zs, a.2.length ≤ 3) := Lib.hid (by
              intro a ha
              rw [← hzs9] at ha
              rcases List.mem_append.1 ha with ha | ha
              · exact (hy3 a ha).2
              · simp only [List.mem_singleton] at ha
                subst ha
                exact (by decide : 1 ≤ 3))
            rw [hzs9] at on_
            obtain ⟨xn, hxn⟩ : ∃ q, q = wn.heap.size := ⟨_, rfl⟩
            rw [← hxn] at on_
            have oX := on_ ⟨w2.heap.size, 1, none⟩ (.slice na nn nc) (by simp only []; omega) (by simp only []; omega)
            clear hzs9 on_ hrn
            go_wp2_with fail
            refine bodyPost_ret (v := .agg #[.int .i64 y.1, .slice (na) nn nc]) (by simp [results, Tryz.results52, go_sem, r0, r1, rf0, rf1]) rfl ?_
            refine ⟨y.1, na, nn, nc, ((y.1, zs) : DQ), rfl, ?_, ⟨⟨by show 1 ≤ zs.length; omega, by show zs.length ≤ 5; omega⟩, hz3.out⟩, ?_, ?_⟩
            · refine Own.mono (lo := lo4) (hi := xn) ?_ (by omega) (by simp [World.setCell]; omega)
              repeat (refine own_off ?_ rfl (by simp only []; omega))
              exact (oQ_mk (x := (y.1, zs)) hI0 oX (Nat.le_refl _) (Nat.le_refl _))
            · refine Cur.below' (C := w.heap.size) HCN ?_ hcb
              repeat (refine Below.setCell ?_ (by simp only []; omega) _)
              exact Below.refl _ _
            · refine turn_on' hbN ?_
              repeat (refine Below.setCell ?_ (by simp only []; omega) _)
              exact Below.refl _ _
          · skip
            go_simp
            have oAt : Own oA wr13.heap.size (wr13.heap.size + 1) wr34 [.string nm, .slice (some ⟨wr13.heap.size, 0, none⟩) 1 1] (nm, [0]) := oA_mk (x := (nm, [0])) (show nm.size ≤ _ by omega) oL (Nat.le_refl _) (Nat.le_refl _)
            obtain ⟨na, nn, nc, wn, hrn, _, hzn, hzs, on_⟩ := own_atomT 27 oas oAt (by omega) (by omega) (by omega) (by omega) (by omega) rfl
            have x1r : (wr34.alloc (.cells #[.string nm, .slice (some ⟨wr13.heap.size, 0, none⟩) 1 1] 48)).cell? ⟨w2.heap.size, 1, none⟩ = some (.slice b y.2.length c) := (((Below.refl wr34.heap.size wr34).alloc (Nat.le_refl _) _).cell (p := ⟨w2.heap.size, 1, none⟩) (by simp only []; omega)).trans X_1
            refine hK9.out _ _ trivial (fun hHeld => ?_)
            clear hK9 K9
            try simp only [Act.put, lgA, lgB, lgC, lgD, lgE, lgF]
            refine wpAnyH_ready (rs := [1]) (by kernel_rfl) (by simp) ?_
            refine AllReadyH.cons rfl (fun K9 hK9 => ?_) AllReadyH.nil
            go_simp
            refine hK9.out _ _ trivial (fun hHeld => ?_)
            clear hK9 K9
            try simp only [Act.put, lgA, lgB, lgC, lgD, lgE, lgF]
            refine wpAnyH_ready (rs := [8]) (by kernel_rfl) (by simp) ?_
            refine AllReadyH.cons rfl (fun K9 hK9 => ?_) AllReadyH.nil
            refine step_app2 hrn rfl rfl rfl rfl rfl ?_
            refine hK9.out _ _ trivial (fun hHeld => ?_)
            clear hK9 K9 x1r
            try simp only [Act.put, lgA, lgB, lgC, lgD, lgE, lgF]
            refine wpAnyH_take (i := 9) (v := ?v9_32) rfl (by kernel_rfl) (by kernel_rfl) (by kernel_rfl) (fun _ _ _ h => h) (Or.inl ⟨by rfl, ?hy9_32⟩) (by assumption) ?rest9_32
            case hy9_32 => intro w hSw; (try dsimp only at hSw); go_simp; (try with_reducible rfl)
            try simp only [Act.put, lgA, lgB, lgC, lgD, lgE, lgF]
            have zN := hzn.below (by omega)
            have sN := zN.size
            have hbN := turn_on' hbx (zN.mono (by omega))
            have r0 := bxc zN R_0
            have r1 := bxc zN R_1
            have rf0 := bxf zN R_f0
            have rf1 := bxf zN R_f1
            have x0 := txc hzn X_0
            have xf0 := txf hzn X_f0
            have x1 := txc hzn X_1
            have xf1 := txf hzn X_f1
            have HCN := HC.below' zN (by omega)
            clear R_0 R_f0 R_1 R_f1 X_0 X_f0 X_1 X_f1 HC oas oAt oL hzn zN
            refine wpAnyH_ready (rs := [10]) (by kernel_rfl) (by simp) ?_
            refine AllReadyH.cons rfl (fun K9 hK9 => ?_) AllReadyH.nil
            go_simp
            refine hK9.out _ _ trivial (fun hHeld => ?_)
            clear hK9 K9
            try simp only [Act.put, lgA, lgB, lgC, lgD, lgE, lgF]
            refine wpAnyH_done (by kernel_rfl) ?_ _
            refine NoPanic.normal ?_
            obtain ⟨zs, hzs9⟩ : ∃ q, y.2 ++ [(nm, [0])] = q := ⟨_, rfl⟩
            have hzl : zs.length = y.2.length + 1 := by rw [← hzs9, List.length_append]; rfl
            have hz3 : Hid (∀ a ∈ zs, a.2.length ≤ 3) := Lib.hid (by
              intro a ha
              rw [← hzs9] at ha
              rcases List.mem_append.1 ha with ha | ha
              · exact (hy3 a ha).2
              · simp only [List.mem_singleton] at ha
                subst ha
                exact (by decide : 1 ≤ 3))
            rw [hzs9] at on_
            obtain ⟨xn, hxn⟩ : ∃ q, q = wn.heap.size := ⟨_, rfl⟩
            rw [← hxn] at on_
            have oX := on_ ⟨w2.heap.size, 1, none⟩ (.slice na nn nc) (by simp only []; omega) (by simp only []; omega)
            clear hzs9 on_ hrn
            go_wp2_with fail
            refine bodyPost_ret (v := .agg #[.int .i64 y.1, .slice (na) nn nc]) (by simp [results, Tryz.results52, go_sem, r0, r1, rf0, rf1]) rfl ?_
            refine ⟨y.1, na, nn, nc, ((y.1, zs) : DQ), rfl, ?_, ⟨⟨by show 1 ≤ zs.length; omega, by show zs.length ≤ 5; omega⟩, hz3.out⟩, ?_, ?_⟩
            · refine Own.mono (lo := lo4) (hi := xn) ?_ (by omega) (by simp [World.setCell]; omega)
              repeat (refine own_off ?_ rfl (by simp only []; omega))
              exact (oQ_mk (x := (y.1, zs)) hI0 oX (Nat.le_refl _) (Nat.le_refl _))
            · refine Cur.below' (C := w.heap.size) HCN ?_ hcb
              repeat (refine Below.setCell ?_ (by simp only []; omega) _)
              exact Below.refl _ _
            · refine turn_on' hbN ?_
              repeat (refine Below.setCell ?_ (by simp only []; omega) _)
              exact Below.refl _ _
    · skip
      go_simp
      have oL : Own oI w5.heap.size (w5.heap.size + 1) ((w5.alloc (.cells #[.int .i64 0] 3)).drew) [.slice (some ⟨w5.heap.size, 0, none⟩) 1 1] [0] := (own_lit1 (W := w5) (by constructor <;> decide)).below ((Below.refl _ _).drew) (Nat.le_refl _)
      obtain ⟨wr39, hwwr39⟩ : ∃ W, W = (w5.alloc (.cells #[.int .i64 0] 3)).drew := ⟨_, rfl⟩
      rw [← hwwr39] at oL ⊢
      have zwr39 : Below w5.heap.size w5 wr39 := by rw [hwwr39]; exact ((Below.refl _ _).alloc (Nat.le_refl _) _).drew
      have swr39 : w5.heap.size + 1 ≤ wr39.heap.size := by rw [hwwr39]; simp
      clear hwwr39
      obtain ⟨gL, hgL⟩ : ∃ q, q = w5.heap.size := ⟨_, rfl⟩
      have hbx := turn_on' hb6 (zwr39.mono (by omega))
      replace oas := oas.below zwr39 (by omega)
      replace HC := HC.below' zwr39 (by omega)
      replace R_0 := bxc zwr39 R_0
      replace R_f0 := bxf zwr39 R_f0
      replace R_1 := bxc zwr39 R_1
      replace R_f1 := bxf zwr39 R_f1
      replace X_0 := bxc zwr39 X_0
      replace X_f0 := bxf zwr39 X_f0
      replace X_1 := bxc zwr39 X_1
      replace X_f1 := bxf zwr39 X_f1
      refine hK9.out _ _ trivial (fun hHeld => ?_)
      clear hK9 K9
      try simp only [Act.put, lgA, lgB, lgC, lgD, lgE, lgF]
      refine wpAnyH_ready (rs := [1, 3]) (by kernel_rfl) (by simp) ?_
      refine AllReadyH.cons rfl (fun K9 hK9 => ?_) (AllReadyH.cons rfl (fun K9 hK9 => ?_) AllReadyH.nil)
      · skip
        go_simp
        refine hK9.out _ _ trivial (fun hHeld => ?_)
        clear hK9 K9
        try simp only [Act.put, lgA, lgB, lgC, lgD, lgE, lgF]
        refine wpAnyH_ready (rs := [3]) (by kernel_rfl) (by simp) ?_
        refine AllReadyH.cons rfl (fun K9 hK9 => ?_) AllReadyH.nil
        go_simp
        obtain ⟨gN, hgN⟩ : ∃ q, q = wr39.heap.size := ⟨_, rfl⟩
        have hN : ∀ i, i < 3 → ∃ s, s ∈ [ByteArray.mk #[], ByteArray.mk #[119], ByteArray.mk #[114]] ∧ (wr39.alloc (.cells #[.string (ByteArray.mk #[]), .string (ByteArray.mk #[119]), .string (ByteArray.mk #[114])] 9)).cell? ⟨wr39.heap.size, i, none⟩ = some (.string s) := fun i hi => by
          rcases (by omega : i = 0 ∨ i = 1 ∨ i = 2) with rfl | rfl | rfl
          · exact ⟨ByteArray.mk #[], by simp, (show (wr39.alloc (.cells #[.string (ByteArray.mk #[]), .string (ByteArray.mk #[119]), .string (ByteArray.mk #[114])] 9)).cell? ⟨wr39.heap.size, 0, none⟩ = some (.string (ByteArray.mk #[])) from box_cell (Below.refl _ _) rfl)⟩
          · exact ⟨ByteArray.mk #[119], by simp, (show (wr39.alloc (.cells #[.string (ByteArray.mk #[]), .string (ByteArray.mk #[119]), .string (ByteArray.mk #[114])] 9)).cell? ⟨wr39.heap.size, 1, none⟩ = some (.string (ByteArray.mk #[119])) from box_cell (Below.refl _ _) rfl)⟩
          · exact ⟨ByteArray.mk #[114], by simp, (show (wr39.alloc (.cells #[.string (ByteArray.mk #[]), .string (ByteArray.mk #[119]), .string (ByteArray.mk #[114])] 9)).cell? ⟨wr39.heap.size, 2, none⟩ = some (.string (ByteArray.mk #[114])) from box_cell (Below.refl _ _) rfl)⟩
        obtain ⟨wr41, hwwr41⟩ : ∃ W, W = wr39.alloc (.cells #[.string (ByteArray.mk #[]), .string (ByteArray.mk #[119]), .string (ByteArray.mk #[114])] 9) := ⟨_, rfl⟩
        rw [← hwwr41] at hN ⊢
        have zwr41 : Below wr39.heap.size wr39 wr41 := by rw [hwwr41]; exact (Below.refl _ _).alloc (Nat.le_refl _) _
        have swr41 : wr39.heap.size + 1 ≤ wr41.heap.size := by rw [hwwr41]; simp
        clear hwwr41
        replace hbx := turn_on' hbx (zwr41.mono (by omega))
        replace oas := oas.below zwr41 (by omega)
        replace HC := HC.below' zwr41 (by omega)
        replace oL := oL.below zwr41 (by omega)
        replace R_0 := bxc zwr41 R_0
        replace R_f0 := bxf zwr41 R_f0
        replace R_1 := bxc zwr41 R_1
        replace R_f1 := bxf zwr41 R_f1
        replace X_0 := bxc zwr41 X_0
        replace X_f0 := bxf zwr41 X_f0
        replace X_1 := bxc zwr41 X_1
        replace X_f1 := bxf zwr41 X_f1
        refine hK9.out _ _ trivial (fun hHeld => ?_)
        clear hK9 K9
        try simp only [Act.put, lgA, lgB, lgC, lgD, lgE, lgF]
        refine wpAnyH_ready (rs := [4]) (by kernel_rfl) (by simp) ?_
        refine AllReadyH.cons rfl (fun K9 hK9 => ?_) AllReadyH.nil
        go_simp
        refine (l1Pick_any wr41 cb ba bn bc _ 3 3 _ (by omega) (by omega) hN (by omega) HC).mono ?_
        rintro e wr42 ⟨nm, rfl, hnm, HC2, zk⟩
        have zwr42 := zk.turn
        have swr42 := zwr42.size
        have hnms : nm.size ≤ 5 := by
          simp only [List.mem_cons, List.not_mem_nil, or_false] at hnm
          rcases hnm with rfl | rfl | rfl <;> decide
        clear HC zk hnm hN
        have HC := HC2
        clear HC2
        replace hbx := hbx.trans zwr42
        replace oas := oas.turn zwr42 (by omega)
        replace oL := oL.turn zwr42 (by omega)
        replace R_0 := txc zwr42 R_0
        replace R_f0 := txf zwr42 R_f0
        replace R_1 := txc zwr42 R_1
        replace R_f1 := txf zwr42 R_f1
        replace X_0 := txc zwr42 X_0
        replace X_f0 := txf zwr42 X_f0
        replace X_1 := txc zwr42 X_1
        replace X_f1 := txf zwr42 X_f1
        refine hK9.out _ _ trivial (fun hHeld => ?_)
        clear hK9 K9
        try simp only [Act.put, lgA, lgB, lgC, lgD, lgE, lgF]
        refine wpAnyH_take (i := 6) (v := ?v6_33) rfl (by kernel_rfl) (by kernel_rfl) (by kernel_rfl) (fun _ _ _ h => h) (Or.inl ⟨by rfl, ?hy6_33⟩) (by assumption) ?rest6_33
        case hy6_33 => intro w hSw; (try dsimp only at hSw); go_simp; (try with_reducible rfl)
        try simp only [Act.put, lgA, lgB, lgC, lgD, lgE, lgF]
        refine wpAnyH_ready (rs := [7]) (by kernel_rfl) (by simp) ?_
        refine AllReadyH.cons rfl (fun K9 hK9 => ?_) AllReadyH.nil
        go_simp
        have oAt : Own oA w5.heap.size (w5.heap.size + 1) wr42 [.string nm, .slice (some ⟨w5.heap.size, 0, none⟩) 1 1] (nm, [0]) := oA_mk (x := (nm, [0])) (show nm.size ≤ _ by omega) oL (Nat.le_refl _) (Nat.le_refl _)
        obtain ⟨na, nn, nc, wn, hrn, _, hzn, hzs, on_⟩ := own_atomT 27 oas oAt (by omega) (by omega) (by omega) (by omega) (by omega) rfl
        have x1r : (wr42.alloc (.cells #[.string nm, .slice (some ⟨w5.heap.size, 0, none⟩) 1 1] 48)).cell? ⟨w2.heap.size, 1, none⟩ = some (.slice b y.2.length c) := (((Below.refl wr42.heap.size wr42).alloc (Nat.le_refl _) _).cell (p := ⟨w2.heap.size, 1, none⟩) (by simp only []; omega)).trans X_1
        refine hK9.out _ _ trivial (fun hHeld => ?_)
        clear hK9 K9
        try simp only [Act.put, lgA, lgB, lgC, lgD, lgE, lgF]
        refine wpAnyH_ready (rs := [8]) (by kernel_rfl) (by simp) ?_
        refine AllReadyH.cons rfl (fun K9 hK9 => ?_) AllReadyH.nil
        refine step_app2 hrn rfl rfl rfl rfl rfl ?_
        refine hK9.out _ _ trivial (fun hHeld => ?_)
        clear hK9 K9 x1r
        try simp only [Act.put, lgA, lgB, lgC, lgD, lgE, lgF]
        refine wpAnyH_take (i := 9) (v := ?v9_34) rfl (by kernel_rfl) (by kernel_rfl) (by kernel_rfl) (fun _ _ _ h => h) (Or.inl ⟨by rfl, ?hy9_34⟩) (by assumption) ?rest9_34
        case hy9_34 => intro w hSw; (try dsimp only at hSw); go_simp; (try with_reducible rfl)
        try simp only [Act.put, lgA, lgB, lgC, lgD, lgE, lgF]
        have zN := hzn.below (by omega)
        have sN := zN.size
        have hbN := turn_on' hbx (zN.mono (by omega))
        have r0 := bxc zN R_0
        have r1 := bxc zN R_1
        have rf0 := bxf zN R_f0
        have rf1 := bxf zN R_f1
        have x0 := txc hzn X_0
        have xf0 := txf hzn X_f0
        have x1 := txc hzn X_1
        have xf1 := txf hzn X_f1
        have HCN := HC.below' zN (by omega)
        clear R_0 R_f0 R_1 R_f1 X_0 X_f0 X_1 X_f1 HC oas oAt oL hzn zN
        refine wpAnyH_ready (rs := [10]) (by kernel_rfl) (by simp) ?_
        refine AllReadyH.cons rfl (fun K9 hK9 => ?_) AllReadyH.nil
        go_simp
        refine hK9.out _ _ trivial (fun hHeld => ?_)
        clear hK9 K9
        try simp only [Act.put, lgA, lgB, lgC, lgD, lgE, lgF]
        refine wpAnyH_done (by kernel_rfl) ?_ _
        refine NoPanic.normal ?_
        obtain ⟨zs, hzs9⟩ : ∃ q, y.2 ++ [(nm, [0])] = q := ⟨_, rfl⟩
        have hzl : zs.length = y.2.length + 1 := by rw [← hzs9, List.length_append]; rfl
        have hz3 : Hid (∀ a ∈ zs, a.2.length ≤ 3) := Lib.hid (by
          intro a ha
          rw [← hzs9] at ha
          rcases List.mem_append.1 ha with ha | ha
          · exact (hy3 a ha).2
          · simp only [List.mem_singleton] at ha
            subst ha
            exact (by decide : 1 ≤ 3))
        rw [hzs9] at on_
        obtain ⟨xn, hxn⟩ : ∃ q, q = wn.heap.size := ⟨_, rfl⟩
        rw [← hxn] at on_
        have oX := on_ ⟨w2.heap.size, 1, none⟩ (.slice na nn nc) (by simp only []; omega) (by simp only []; omega)
        clear hzs9 on_ hrn
        go_wp2_with fail
        refine bodyPost_ret (v := .agg #[.int .i64 y.1, .slice (na) nn nc]) (by simp [results, Tryz.results52, go_sem, r0, r1, rf0, rf1]) rfl ?_
        refine ⟨y.1, na, nn, nc, ((y.1, zs) : DQ), rfl, ?_, ⟨⟨by show 1 ≤ zs.length; omega, by show zs.length ≤ 5; omega⟩, hz3.out⟩, ?_, ?_⟩
        · refine Own.mono (lo := lo4) (hi := xn) ?_ (by omega) (by simp [World.setCell]; omega)
          repeat (refine own_off ?_ rfl (by simp only []; omega))
          exact (oQ_mk (x := (y.1, zs)) hI0 oX (Nat.le_refl _) (Nat.le_refl _))
        · refine Cur.below' (C := w.heap.size) HCN ?_ hcb
          repeat (refine Below.setCell ?_ (by simp only []; omega) _)
          exact Below.refl _ _
        · refine turn_on' hbN ?_
          repeat (refine Below.setCell ?_ (by simp only []; omega) _)
          exact Below.refl _ _
      · skip
        go_simp
        obtain ⟨gN, hgN⟩ : ∃ q, q = wr39.heap.size := ⟨_, rfl⟩
        have hN : ∀ i, i < 3 → ∃ s, s ∈ [ByteArray.mk #[], ByteArray.mk #[119], ByteArray.mk #[114]] ∧ (wr39.alloc (.cells #[.string (ByteArray.mk #[]), .string (ByteArray.mk #[119]), .string (ByteArray.mk #[114])] 9)).cell? ⟨wr39.heap.size, i, none⟩ = some (.string s) := fun i hi => by
          rcases (by omega : i = 0 ∨ i = 1 ∨ i = 2) with rfl | rfl | rfl
          · exact ⟨ByteArray.mk #[], by simp, (show (wr39.alloc (.cells #[.string (ByteArray.mk #[]), .string (ByteArray.mk #[119]), .string (ByteArray.mk #[114])] 9)).cell? ⟨wr39.heap.size, 0, none⟩ = some (.string (ByteArray.mk #[])) from box_cell (Below.refl _ _) rfl)⟩
          · exact ⟨ByteArray.mk #[119], by simp, (show (wr39.alloc (.cells #[.string (ByteArray.mk #[]), .string (ByteArray.mk #[119]), .string (ByteArray.mk #[114])] 9)).cell? ⟨wr39.heap.size, 1, none⟩ = some (.string (ByteArray.mk #[119])) from box_cell (Below.refl _ _) rfl)⟩
          · exact ⟨ByteArray.mk #[114], by simp, (show (wr39.alloc (.cells #[.string (ByteArray.mk #[]), .string (ByteArray.mk #[119]), .string (ByteArray.mk #[114])] 9)).cell? ⟨wr39.heap.size, 2, none⟩ = some (.string (ByteArray.mk #[114])) from box_cell (Below.refl _ _) rfl)⟩
        obtain ⟨wr44, hwwr44⟩ : ∃ W, W = wr39.alloc (.cells #[.string (ByteArray.mk #[]), .string (ByteArray.mk #[119]), .string (ByteArray.mk #[114])] 9) := ⟨_, rfl⟩
        rw [← hwwr44] at hN ⊢
        have zwr44 : Below wr39.heap.size wr39 wr44 := by rw [hwwr44]; exact (Below.refl _ _).alloc (Nat.le_refl _) _
        have swr44 : wr39.heap.size + 1 ≤ wr44.heap.size := by rw [hwwr44]; simp
        clear hwwr44
        replace hbx := turn_on' hbx (zwr44.mono (by omega))
        replace oas := oas.below zwr44 (by omega)
        replace HC := HC.below' zwr44 (by omega)
        replace oL := oL.below zwr44 (by omega)
        replace R_0 := bxc zwr44 R_0
        replace R_f0 := bxf zwr44 R_f0
        replace R_1 := bxc zwr44 R_1
        replace R_f1 := bxf zwr44 R_f1
        replace X_0 := bxc zwr44 X_0
        replace X_f0 := bxf zwr44 X_f0
        replace X_1 := bxc zwr44 X_1
        replace X_f1 := bxf zwr44 X_f1
        refine hK9.out _ _ trivial (fun hHeld => ?_)
        clear hK9 K9
        try simp only [Act.put, lgA, lgB, lgC, lgD, lgE, lgF]
        refine wpAnyH_ready (rs := [1, 4]) (by kernel_rfl) (by simp) ?_
        refine AllReadyH.cons rfl (fun K9 hK9 => ?_) (AllReadyH.cons rfl (fun K9 hK9 => ?_) AllReadyH.nil)
        · skip
          go_simp
          refine hK9.out _ _ trivial (fun hHeld => ?_)
          clear hK9 K9
          try simp only [Act.put, lgA, lgB, lgC, lgD, lgE, lgF]
          refine wpAnyH_ready (rs := [4]) (by kernel_rfl) (by simp) ?_
          refine AllReadyH.cons rfl (fun K9 hK9 => ?_) AllReadyH.nil
          go_simp
          refine (l1Pick_any wr44 cb ba bn bc _ 3 3 _ (by omega) (by omega) hN (by omega) HC).mono ?_
          rintro e wr46 ⟨nm, rfl, hnm, HC2, zk⟩
          have zwr46 := zk.turn
          have swr46 := zwr46.size
          have hnms : nm.size ≤ 5 := by
            simp only [List.mem_cons, List.not_mem_nil, or_false] at hnm
            rcases hnm with rfl | rfl | rfl <;> decide
          clear HC zk hnm hN
          have HC := HC2
          clear HC2
          replace hbx := hbx.trans zwr46
          replace oas := oas.turn zwr46 (by omega)
          replace oL := oL.turn zwr46 (by omega)
          replace R_0 := txc zwr46 R_0
          replace R_f0 := txf zwr46 R_f0
          replace R_1 := txc zwr46 R_1
          replace R_f1 := txf zwr46 R_f1
          replace X_0 := txc zwr46 X_0
          replace X_f0 := txf zwr46 X_f0
          replace X_1 := txc zwr46 X_1
          replace X_f1 := txf zwr46 X_f1
          refine hK9.out _ _ trivial (fun hHeld => ?_)
          clear hK9 K9
          try simp only [Act.put, lgA, lgB, lgC, lgD, lgE, lgF]
          refine wpAnyH_take (i := 6) (v := ?v6_35) rfl (by kernel_rfl) (by kernel_rfl) (by kernel_rfl) (fun _ _ _ h => h) (Or.inl ⟨by rfl, ?hy6_35⟩) (by assumption) ?rest6_35
          case hy6_35 => intro w hSw; (try dsimp only at hSw); go_simp; (try with_reducible rfl)
          try simp only [Act.put, lgA, lgB, lgC, lgD, lgE, lgF]
          refine wpAnyH_ready (rs := [7]) (by kernel_rfl) (by simp) ?_
          refine AllReadyH.cons rfl (fun K9 hK9 => ?_) AllReadyH.nil
          go_simp
          have oAt : Own oA w5.heap.size (w5.heap.size + 1) wr46 [.string nm, .slice (some ⟨w5.heap.size, 0, none⟩) 1 1] (nm, [0]) := oA_mk (x := (nm, [0])) (show nm.size ≤ _ by omega) oL (Nat.le_refl _) (Nat.le_refl _)
          obtain ⟨na, nn, nc, wn, hrn, _, hzn, hzs, on_⟩ := own_atomT 27 oas oAt (by omega) (by omega) (by omega) (by omega) (by omega) rfl
          have x1r : (wr46.alloc (.cells #[.string nm, .slice (some ⟨w5.heap.size, 0, none⟩) 1 1] 48)).cell? ⟨w2.heap.size, 1, none⟩ = some (.slice b y.2.length c) := (((Below.refl wr46.heap.size wr46).alloc (Nat.le_refl _) _).cell (p := ⟨w2.heap.size, 1, none⟩) (by simp only []; omega)).trans X_1
          refine hK9.out _ _ trivial (fun hHeld => ?_)
          clear hK9 K9
          try simp only [Act.put, lgA, lgB, lgC, lgD, lgE, lgF]
          refine wpAnyH_ready (rs := [8]) (by kernel_rfl) (by simp) ?_
          refine AllReadyH.cons rfl (fun K9 hK9 => ?_) AllReadyH.nil
          refine step_app2 hrn rfl rfl rfl rfl rfl ?_
          refine hK9.out _ _ trivial (fun hHeld => ?_)
          clear hK9 K9 x1r
          try simp only [Act.put, lgA, lgB, lgC, lgD, lgE, lgF]
          refine wpAnyH_take (i := 9) (v := ?v9_36) rfl (by kernel_rfl) (by kernel_rfl) (by kernel_rfl) (fun _ _ _ h => h) (Or.inl ⟨by rfl, ?hy9_36⟩) (by assumption) ?rest9_36
          case hy9_36 => intro w hSw; (try dsimp only at hSw); go_simp; (try with_reducible rfl)
          try simp only [Act.put, lgA, lgB, lgC, lgD, lgE, lgF]
          have zN := hzn.below (by omega)
          have sN := zN.size
          have hbN := turn_on' hbx (zN.mono (by omega))
          have r0 := bxc zN R_0
          have r1 := bxc zN R_1
          have rf0 := bxf zN R_f0
          have rf1 := bxf zN R_f1
          have x0 := txc hzn X_0
          have xf0 := txf hzn X_f0
          have x1 := txc hzn X_1
          have xf1 := txf hzn X_f1
          have HCN := HC.below' zN (by omega)
          clear R_0 R_f0 R_1 R_f1 X_0 X_f0 X_1 X_f1 HC oas oAt oL hzn zN
          refine wpAnyH_ready (rs := [10]) (by kernel_rfl) (by simp) ?_
          refine AllReadyH.cons rfl (fun K9 hK9 => ?_) AllReadyH.nil
          go_simp
          refine hK9.out _ _ trivial (fun hHeld => ?_)
          clear hK9 K9
          try simp only [Act.put, lgA, lgB, lgC, lgD, lgE, lgF]
          refine wpAnyH_done (by kernel_rfl) ?_ _
          refine NoPanic.normal ?_
          obtain ⟨zs, hzs9⟩ : ∃ q, y.2 ++ [(nm, [0])] = q := ⟨_, rfl⟩
          have hzl : zs.length = y.2.length + 1 := by rw [← hzs9, List.length_append]; rfl
          have hz3 : Hid (∀ a ∈ zs, a.2.length ≤ 3) := Lib.hid (by
            intro a ha
            rw [← hzs9] at ha
            rcases List.mem_append.1 ha with ha | ha
            · exact (hy3 a ha).2
            · simp only [List.mem_singleton] at ha
              subst ha
              exact (by decide : 1 ≤ 3))
          rw [hzs9] at on_
          obtain ⟨xn, hxn⟩ : ∃ q, q = wn.heap.size := ⟨_, rfl⟩
          rw [← hxn] at on_
          have oX := on_ ⟨w2.heap.size, 1, none⟩ (.slice na nn nc) (by simp only []; omega) (by simp only []; omega)
          clear hzs9 on_ hrn
          go_wp2_with fail
          refine bodyPost_ret (v := .agg #[.int .i64 y.1, .slice (na) nn nc]) (by simp [results, Tryz.results52, go_sem, r0, r1, rf0, rf1]) rfl ?_
          refine ⟨y.1, na, nn, nc, ((y.1, zs) : DQ), rfl, ?_, ⟨⟨by show 1 ≤ zs.length; omega, by show zs.length ≤ 5; omega⟩, hz3.out⟩, ?_, ?_⟩
          · refine Own.mono (lo := lo4) (hi := xn) ?_ (by omega) (by simp [World.setCell]; omega)
            repeat (refine own_off ?_ rfl (by simp only []; omega))
            exact (oQ_mk (x := (y.1, zs)) hI0 oX (Nat.le_refl _) (Nat.le_refl _))
          · refine Cur.below' (C := w.heap.size) HCN ?_ hcb
            repeat (refine Below.setCell ?_ (by simp only []; omega) _)
            exact Below.refl _ _
          · refine turn_on' hbN ?_
            repeat (refine Below.setCell ?_ (by simp only []; omega) _)
            exact Below.refl _ _
        · skip
          go_simp
          refine (l1Pick_any wr44 cb ba bn bc _ 3 3 _ (by omega) (by omega) hN (by omega) HC).mono ?_
          rintro e wr48 ⟨nm, rfl, hnm, HC2, zk⟩
          have zwr48 := zk.turn
          have swr48 := zwr48.size
          have hnms : nm.size ≤ 5 := by
            simp only [List.mem_cons, List.not_mem_nil, or_false] at hnm
            rcases hnm with rfl | rfl | rfl <;> decide
          clear HC zk hnm hN
          have HC := HC2
          clear HC2
          replace hbx := hbx.trans zwr48
          replace oas := oas.turn zwr48 (by omega)
          replace oL := oL.turn zwr48 (by omega)
          replace R_0 := txc zwr48 R_0
          replace R_f0 := txf zwr48 R_f0
          replace R_1 := txc zwr48 R_1
          replace R_f1 := txf zwr48 R_f1
          replace X_0 := txc zwr48 X_0
          replace X_f0 := txf zwr48 X_f0
          replace X_1 := txc zwr48 X_1
          replace X_f1 := txf zwr48 X_f1
          refine hK9.out _ _ trivial (fun hHeld => ?_)
          clear hK9 K9
          try simp only [Act.put, lgA, lgB, lgC, lgD, lgE, lgF]
          refine wpAnyH_take (i := 6) (v := ?v6_37) rfl (by kernel_rfl) (by kernel_rfl) (by kernel_rfl) (fun _ _ _ h => h) (Or.inl ⟨by rfl, ?hy6_37⟩) (by assumption) ?rest6_37
          case hy6_37 => intro w hSw; (try dsimp only at hSw); go_simp; (try with_reducible rfl)
          try simp only [Act.put, lgA, lgB, lgC, lgD, lgE, lgF]
          refine wpAnyH_ready (rs := [1, 7]) (by kernel_rfl) (by simp) ?_
          refine AllReadyH.cons rfl (fun K9 hK9 => ?_) (AllReadyH.cons rfl (fun K9 hK9 => ?_) AllReadyH.nil)
          · skip
            go_simp
            refine hK9.out _ _ trivial (fun hHeld => ?_)
            clear hK9 K9
            try simp only [Act.put, lgA, lgB, lgC, lgD, lgE, lgF]
            refine wpAnyH_ready (rs := [7]) (by kernel_rfl) (by simp) ?_
            refine AllReadyH.cons rfl (fun K9 hK9 => ?_) AllReadyH.nil
            go_simp
            have oAt : Own oA w5.heap.size (w5.heap.size + 1) wr48 [.string nm, .slice (some ⟨w5.heap.size, 0, none⟩) 1 1] (nm, [0]) := oA_mk (x := (nm, [0])) (show nm.size ≤ _ by omega) oL (Nat.le_refl _) (Nat.le_refl _)
            obtain ⟨na, nn, nc, wn, hrn, _, hzn, hzs, on_⟩ := own_atomT 27 oas oAt (by omega) (by omega) (by omega) (by omega) (by omega) rfl
            have x1r : (wr48.alloc (.cells #[.string nm, .slice (some ⟨w5.heap.size, 0, none⟩) 1 1] 48)).cell? ⟨w2.heap.size, 1, none⟩ = some (.slice b y.2.length c) := (((Below.refl wr48.heap.size wr48).alloc (Nat.le_refl _) _).cell (p := ⟨w2.heap.size, 1, none⟩) (by simp only []; omega)).trans X_1
            refine hK9.out _ _ trivial (fun hHeld => ?_)
            clear hK9 K9
            try simp only [Act.put, lgA, lgB, lgC, lgD, lgE, lgF]
            refine wpAnyH_ready (rs := [8]) (by kernel_rfl) (by simp) ?_
            refine AllReadyH.cons rfl (fun K9 hK9 => ?_) AllReadyH.nil
            refine step_app2 hrn rfl rfl rfl rfl rfl ?_
            refine hK9.out _ _ trivial (fun hHeld => ?_)
            clear hK9 K9 x1r
            try simp only [Act.put, lgA, lgB, lgC, lgD, lgE, lgF]
            refine wpAnyH_take (i := 9) (v := ?v9_38) rfl (by kernel_rfl) (by kernel_rfl) (by kernel_rfl) (fun _ _ _ h => h) (Or.inl ⟨by rfl, ?hy9_38⟩) (by assumption) ?rest9_38
            case hy9_38 => intro w hSw; (try dsimp only at hSw); go_simp; (try with_reducible rfl)
            try simp only [Act.put, lgA, lgB, lgC, lgD, lgE, lgF]
            have zN := hzn.below (by omega)
            have sN := zN.size
            have hbN := turn_on' hbx (zN.mono (by omega))
            have r0 := bxc zN R_0
            have r1 := bxc zN R_1
            have rf0 := bxf zN R_f0
            have rf1 := bxf zN R_f1
            have x0 := txc hzn X_0
            have xf0 := txf hzn X_f0
            have x1 := txc hzn X_1
            have xf1 := txf hzn X_f1
            have HCN := HC.below' zN (by omega)
            clear R_0 R_f0 R_1 R_f1 X_0 X_f0 X_1 X_f1 HC oas oAt oL hzn zN
            refine wpAnyH_ready (rs := [10]) (by kernel_rfl) (by simp) ?_
            refine AllReadyH.cons rfl (fun K9 hK9 => ?_) AllReadyH.nil
            go_simp
            refine hK9.out _ _ trivial (fun hHeld => ?_)
            clear hK9 K9
            try simp only [Act.put, lgA, lgB, lgC, lgD, lgE, lgF]
            refine wpAnyH_done (by kernel_rfl) ?_ _
            refine NoPanic.normal ?_
            obtain ⟨zs, hzs9⟩ : ∃ q, y.2 ++ [(nm, [0])] = q := ⟨_, rfl⟩
            have hzl : zs.length = y.2.length + 1 := by rw [← hzs9, List.length_append]; rfl
            have hz3 : Hid (∀ a ∈ zs, a.2.length ≤ 3) := Lib.hid (by
              intro a ha
              rw [← hzs9] at ha
              rcases List.mem_append.1 ha with ha | ha
              · exact (hy3 a ha).2
              · simp only [List.mem_singleton] at ha
                subst ha
                exact (by decide : 1 ≤ 3))
            rw [hzs9] at on_
            obtain ⟨xn, hxn⟩ : ∃ q, q = wn.heap.size := ⟨_, rfl⟩
            rw [← hxn] at on_
            have oX := on_ ⟨w2.heap.size, 1, none⟩ (.slice na nn nc) (by simp only []; omega) (by simp only []; omega)
            clear hzs9 on_ hrn
            go_wp2_with fail
            refine bodyPost_ret (v := .agg #[.int .i64 y.1, .slice (na) nn nc]) (by simp [results, Tryz.results52, go_sem, r0, r1, rf0, rf1]) rfl ?_
            refine ⟨y.1, na, nn, nc, ((y.1, zs) : DQ), rfl, ?_, ⟨⟨by show 1 ≤ zs.length; omega, by show zs.length ≤ 5; omega⟩, hz3.out⟩, ?_, ?_⟩
            · refine Own.mono (lo := lo4) (hi := xn) ?_ (by omega) (by simp [World.setCell]; omega)
              repeat (refine own_off ?_ rfl (by simp only []; omega))
              exact (oQ_mk (x := (y.1, zs)) hI0 oX (Nat.le_refl _) (Nat.le_refl _))
            · refine Cur.below' (C := w.heap.size) HCN ?_ hcb
              repeat (refine Below.setCell ?_ (by simp only []; omega) _)
              exact Below.refl _ _
            · refine turn_on' hbN ?_
              repeat (refine Below.setCell ?_ (by simp only []; omega) _)
              exact Below.refl _ _
          · skip
            go_simp
            have oAt : Own oA w5.heap.size (w5.heap.size + 1) wr48 [.string nm, .slice (some ⟨w5.heap.size, 0, none⟩) 1 1] (nm, [0]) := oA_mk (x := (nm, [0])) (show nm.size ≤ _ by omega) oL (Nat.le_refl _) (Nat.le_refl _)
            obtain ⟨na, nn, nc, wn, hrn, _, hzn, hzs, on_⟩ := own_atomT 27 oas oAt (by omega) (by omega) (by omega) (by omega) (by omega) rfl
            have x1r : (wr48.alloc (.cells #[.string nm, .slice (some ⟨w5.heap.size, 0, none⟩) 1 1] 48)).cell? ⟨w2.heap.size, 1, none⟩ = some (.slice b y.2.length c) := (((Below.refl wr48.heap.size wr48).alloc (Nat.le_refl _) _).cell (p := ⟨w2.heap.size, 1, none⟩) (by simp only []; omega)).trans X_1
            refine hK9.out _ _ trivial (fun hHeld => ?_)
            clear hK9 K9
            try simp only [Act.put, lgA, lgB, lgC, lgD, lgE, lgF]
            refine wpAnyH_ready (rs := [1]) (by kernel_rfl) (by simp) ?_
            refine AllReadyH.cons rfl (fun K9 hK9 => ?_) AllReadyH.nil
            go_simp
            refine hK9.out _ _ trivial (fun hHeld => ?_)
            clear hK9 K9
            try simp only [Act.put, lgA, lgB, lgC, lgD, lgE, lgF]
            refine wpAnyH_ready (rs := [8]) (by kernel_rfl) (by simp) ?_
            refine AllReadyH.cons rfl (fun K9 hK9 => ?_) AllReadyH.nil
            refine step_app2 hrn rfl rfl rfl rfl rfl ?_
            refine hK9.out _ _ trivial (fun hHeld => ?_)
            clear hK9 K9 x1r
            try simp only [Act.put, lgA, lgB, lgC, lgD, lgE, lgF]
            refine wpAnyH_take (i := 9) (v := ?v9_39) rfl (by kernel_rfl) (by kernel_rfl) (by kernel_rfl) (fun _ _ _ h => h) (Or.inl ⟨by rfl, ?hy9_39⟩) (by assumption) ?rest9_39
            case hy9_39 => intro w hSw; (try dsimp only at hSw); go_simp; (try with_reducible rfl)
            try simp only [Act.put, lgA, lgB, lgC, lgD, lgE, lgF]
            have zN := hzn.below (by omega)
            have sN := zN.size
            have hbN := turn_on' hbx (zN.mono (by omega))
            have r0 := bxc zN R_0
            have r1 := bxc zN R_1
            have rf0 := bxf zN R_f0
            have rf1 := bxf zN R_f1
            have x0 := txc hzn X_0
            have xf0 := txf hzn X_f0
            have x1 := txc hzn X_1
            have xf1 := txf hzn X_f1
            have HCN := HC.below' zN (by omega)
            clear R_0 R_f0 R_1 R_f1 X_0 X_f0 X_1 X_f1 HC oas oAt oL hzn zN
            refine wpAnyH_ready (rs := [10]) (by kernel_rfl) (by simp) ?_
            refine AllReadyH.cons rfl (fun K9 hK9 => ?_) AllReadyH.nil
            go_simp
            refine hK9.out _ _ trivial (fun hHeld => ?_)
            clear hK9 K9
            try simp only [Act.put, lgA, lgB, lgC, lgD, lgE, lgF]
            refine wpAnyH_done (by kernel_rfl) ?_ _
            refine NoPanic.normal ?_
            obtain ⟨zs, hzs9⟩ : ∃ q, y.2 ++ [(nm, [0])] = q := ⟨_, rfl⟩
            have hzl : zs.length = y.2.length + 1 := by rw [← hzs9, List.length_append]; rfl
            have hz3 : Hid (∀ a ∈ zs, a.2.length ≤ 3) := Lib.hid (by
              intro a ha
              rw [← hzs9] at ha
              rcases List.mem_append.1 ha with ha | ha
              · exact (hy3 a ha).2
              · simp only [List.mem_singleton] at ha
                subst ha
                exact (by decide : 1 ≤ 3))
            rw [hzs9] at on_
            obtain ⟨xn, hxn⟩ : ∃ q, q = wn.heap.size := ⟨_, rfl⟩
            rw [← hxn] at on_
            have oX := on_ ⟨w2.heap.size, 1, none⟩ (.slice na nn nc) (by simp only []; omega) (by simp only []; omega)
            clear hzs9 on_ hrn
            go_wp2_with fail
            refine bodyPost_ret (v := .agg #[.int .i64 y.1, .slice (na) nn nc]) (by simp [results, Tryz.results52, go_sem, r0, r1, rf0, rf1]) rfl ?_
            refine ⟨y.1, na, nn, nc, ((y.1, zs) : DQ), rfl, ?_, ⟨⟨by show 1 ≤ zs.length; omega, by show zs.length ≤ 5; omega⟩, hz3.out⟩, ?_, ?_⟩
            · refine Own.mono (lo := lo4) (hi := xn) ?_ (by omega) (by simp [World.setCell]; omega)
              repeat (refine own_off ?_ rfl (by simp only []; omega))
              exact (oQ_mk (x := (y.1, zs)) hI0 oX (Nat.le_refl _) (Nat.le_refl _))
            · refine Cur.below' (C := w.heap.size) HCN ?_ hcb
              repeat (refine Below.setCell ?_ (by simp only []; omega) _)
              exact Below.refl _ _
            · refine turn_on' hbN ?_
              repeat (refine Below.setCell ?_ (by simp only []; omega) _)
              exact Below.refl _ _
  by_cases a2 : k1 = 2
  · subst a2
    obtain ⟨gg, cc, f9, pre, post, E, hga, hg1, hg2, hg3, hrep, hpre, hgc, _, hput⟩ := own_put oas (i := 0) (x := y.2[0]) (List.getElem?_eq_getElem (by omega))
    subst hga
    obtain ⟨d0, d1, p0, q1, rfl, rfl, ⟨rfl, hs0, rfl⟩, t2⟩ := hrep
    obtain ⟨a2, m2, rfl⟩ := oSl_len t2
    replace hpre : pre.length = 0 := by simpa using hpre
    replace hgc : w5.heap[gg]? = some (.cells (pre ++ ([Value.string (y.2[0]).1, Value.slice a2 (y.2[0]).2.length m2] ++ post)).toArray E) := hgc
    have hfz : w5.frozen? ⟨gg, 1, none⟩ = false := at_frozen hgc 1
    have hcl : w5.cell? ⟨gg, 1, none⟩ = some (Value.slice a2 (y.2[0]).2.length m2) := at_cell hgc hpre (j := 1) rfl
    have hn0 : (0 : Int) < (y.2.length : Int) := by omega
    obtain ⟨wF, hwF⟩ : ∃ W, W = w5.setCell ⟨gg, 1, none⟩ (.slice none 0 0) := ⟨_, rfl⟩
    have hgF : wF.heap[gg]? = some (.cells (pre ++ ([Value.string (y.2[0]).1, Value.slice none 0 0] ++ post)).toArray E) := by rw [hwF]; exact at_set hgc hpre (j := 1) (by simp) _
    have oF := hput wF ((y.2[0]).1, []) [Value.string (y.2[0]).1, Value.slice none 0 0] hi5 hi5 (oA_mk (x := ((y.2[0]).1, [])) hs0 (own_nil_S (B := hi5)) (Nat.le_refl _) (Nat.le_refl _)) (Nat.le_refl _) (Nat.le_refl _) hgF (fun k _ _ hne => by rw [hwF]; exact Below.heap_setCell _ _ _ _ hne)
    have zF : Below lo4 w5 wF := by rw [hwF]; exact Below.setCell (Below.refl _ _) (by simp only []; omega) _
    have tF : Turn gg (gg + 1) w5 wF := by rw [hwF]; exact (turn_refl gg (gg + 1) w5).setIn (p := ⟨gg, _, none⟩) (Nat.le_refl _) (Nat.lt_succ_self _) _
    have HCF := HC.below' zF (by omega)
    have hbF := turn_on' hb6 (zF.mono (by omega))
    have sF := zF.size
    have r0 := bxc zF R_0
    have r1 := bxc zF R_1
    have rf0 := bxf zF R_f0
    have rf1 := bxf zF R_f1
    have x0 := txc tF X_0
    have x1 := txc tF X_1
    go_wp2_with fail
    rw [← hwF]
    obtain ⟨zs, hzs⟩ : ∃ q, y.2.set 0 ((y.2[0]).1, []) = q := ⟨_, rfl⟩
    have hzl : zs.length = y.2.length := by rw [← hzs, List.length_set]
    have hz3 : Hid (∀ a ∈ zs, a.2.length ≤ 3) := Lib.hid (by
      intro a ha
      rw [← hzs] at ha
      rcases List.mem_or_eq_of_mem_set ha with ha | ha
      · exact (hy3 a ha).2
      · subst ha
        first
          | exact (by decide : 0 ≤ 3)
          | (show (List.set _ _ _).length ≤ 3; rw [List.length_set]; exact hv3))
    rw [hzs] at oF
    clear hput hgc hgF hfz hcl t2 hwF
    go_wp2_with fail
    refine bodyPost_ret (v := .agg #[.int .i64 y.1, .slice (some ⟨gg, 0, none⟩) y.2.length c]) (by simp [results, Tryz.results52, go_sem, r0, r1, rf0, rf1]) rfl ?_
    refine ⟨y.1, some ⟨gg, 0, none⟩, y.2.length, c, ((y.1, zs) : DQ), rfl, ?_, ⟨⟨by show 1 ≤ zs.length; omega, by show zs.length ≤ 5; omega⟩, hz3.out⟩, ?_, ?_⟩
    · refine Own.mono (lo := lo4) (hi := hi5) ?_ (by omega) (by simp [World.setCell]; omega)
      repeat (refine own_off ?_ rfl (by simp only []; omega))
      exact (oQ_mk (x := (y.1, zs)) hI0 oF (Nat.le_refl _) (Nat.le_refl _))
    · refine Cur.below' (C := w.heap.size) HCF ?_ hcb
      repeat (refine Below.setCell ?_ (by simp only []; omega) _)
      exact Below.refl _ _
    · refine turn_on' hbF ?_
      repeat (refine Below.setCell ?_ (by simp only []; omega) _)
      exact Below.refl _ _
  by_cases a3 : k1 = 3
  · subst a3
    obtain ⟨x0, hx0⟩ : ∃ x, y.2[0]? = some x := ⟨_, List.getElem?_eq_getElem (by omega)⟩
    obtain ⟨hv1, hv3⟩ := hy3 x0 (List.mem_of_getElem? hx0)
    go_wp2_with fail
    obtain ⟨gA, gV, mV, hbe, hg1, hg2, hgg, cA, fA, ⟨v0, cV⟩, fV, hput⟩ := own_head oas hx0 hv1
    subst hbe
    have hn0 : 0 < y.2.length := by omega
    have hv0 : 0 < x0.2.length := by omega
    have hdr : Below w5.heap.size w5 w5.drew := (Below.refl _ _).drew
    refine wp_region_noPanic ?_
    refine wp_region_held_drew (S := (fun W => W.cell? ⟨w2.heap.size, 1, none⟩ = some (.slice (some ⟨gA, 0, none⟩) y.2.length c) ∧ W.cell? ⟨gA, 1, none⟩ = some (.slice (some ⟨gV, 0, none⟩) x0.2.length mV))) (by kernel_rfl) ?hS40 (fun hHeld => ?_)
    case hS40 => exact ⟨X_1, cA⟩
    refine wpAnyH_take (i := 0) (v := ?v0_41) rfl (by kernel_rfl) (by kernel_rfl) (by kernel_rfl) (fun _ _ _ h => h) (Or.inl ⟨by rfl, ?hy0_41⟩) (by assumption) ?rest0_41
    case hy0_41 => intro w hSw; (try dsimp only at hSw); go_simp; (try with_reducible rfl)
    try simp only [Act.put, lgA, lgB, lgC, lgD, lgE, lgF]
    refine wpAnyH_take (i := 1) (v := ?v1_42) rfl (by kernel_rfl) (by kernel_rfl) (by kernel_rfl) (fun _ _ _ h => h) (Or.inl ⟨by rfl, ?hy1_42⟩) (by assumption) ?rest1_42
    case hy1_42 => intro w hSw; (try dsimp only at hSw); go_simp; (try with_reducible rfl)
    try simp only [Act.put, lgA, lgB, lgC, lgD, lgE, lgF]
    refine wpAnyH_take (i := 2) (v := ?v2_43) rfl (by kernel_rfl) (by kernel_rfl) (by kernel_rfl) (fun _ _ _ h => h) (Or.inl ⟨by rfl, ?hy2_43⟩) (by assumption) ?rest2_43
    case hy2_43 => intro w hSw; (try dsimp only at hSw); go_simp; (try with_reducible rfl)
    try simp only [Act.put, lgA, lgB, lgC, lgD, lgE, lgF]
    refine wpAnyH_take (i := 3) (v := ?v3_44) rfl (by kernel_rfl) (by kernel_rfl) (by kernel_rfl) (fun _ _ _ h => h) (Or.inl ⟨by rfl, ?hy3_44⟩) (by assumption) ?rest3_44
    case hy3_44 => intro w hSw; (try dsimp only at hSw); go_simp; (try with_reducible rfl)
    try simp only [Act.put, lgA, lgB, lgC, lgD, lgE, lgF]
    refine wpAnyH_take (i := 4) (v := ?v4_45) rfl (by kernel_rfl) (by kernel_rfl) (by kernel_rfl) (fun _ _ _ h => h) (Or.inl ⟨by rfl, ?hy4_45⟩) (by assumption) ?rest4_45
    case hy4_45 => intro w hSw; (try dsimp only at hSw); go_simp; (try with_reducible rfl)
    try simp only [Act.put, lgA, lgB, lgC, lgD, lgE, lgF]
    refine wpAnyH_take (i := 5) (v := ?v5_46) rfl (by kernel_rfl) (by kernel_rfl) (by kernel_rfl) (fun _ _ _ h => h) (Or.inl ⟨by rfl, ?hy5_46⟩) (by assumption) ?rest5_46
    case hy5_46 => intro w hSw; (try dsimp only at hSw); go_simp; (try with_reducible rfl)
    try simp only [Act.put, lgA, lgB, lgC, lgD, lgE, lgF]
    refine wpAnyH_ready (rs := [6]) (by kernel_rfl) (by simp) ?_
    refine AllReadyH.cons rfl (fun K9 hK9 => ?_) AllReadyH.nil
    go_simp
    have h3 : Ints ((w5.alloc (.cells #[.int .i64 (-1), .int .i64 4, .int .i64 1] 3)).drew) (some ⟨w5.heap.size, 0, none⟩) 3 [-1, 4, 1] := (ints_lit w5 [-1, 4, 1] (i64_lits (by decide)) (by simp)).below ((Below.refl _ _).drew)
    obtain ⟨wr, hwr⟩ : ∃ W, W = (w5.alloc (.cells #[.int .i64 (-1), .int .i64 4, .int .i64 1] 3)).drew := ⟨_, rfl⟩
    rw [← hwr] at h3 ⊢
    have zr : Below w5.heap.size w5 wr := by rw [hwr]; exact ((Below.refl _ _).alloc (Nat.le_refl _) _).drew
    have sr : w5.heap.size + 1 ≤ wr.heap.size := by rw [hwr]; simp
    clear hwr
    have hbx := turn_on' hb6 (zr.mono (by omega))
    have HC3 := HC.below' zr (by omega)
    clear HC
    replace R_0 := bxc zr R_0
    replace R_f0 := bxf zr R_f0
    replace R_1 := bxc zr R_1
    replace R_f1 := bxf zr R_f1
    replace X_0 := bxc zr X_0
    replace X_f0 := bxf zr X_f0
    replace X_1 := bxc zr X_1
    replace X_f1 := bxf zr X_f1
    replace cA := bxc zr cA
    replace cV := bxc zr cV
    replace fV := bxf zr fV
    refine hK9.out _ _ ⟨X_1, cA⟩ (fun hHeld => ?_)
    clear hK9 K9
    try simp only [Act.put, lgA, lgB, lgC, lgD, lgE, lgF]
    refine wpAnyH_ready (rs := [7]) (by kernel_rfl) (by simp) ?_
    refine AllReadyH.cons rfl (fun K9 hK9 => ?_) AllReadyH.nil
    go_simp
    refine (l1PickInt_any wr cb ba bn bc _ 3 3 _ (by omega) (by omega) h3 (by omega) HC3).mono ?_
    rintro e wp ⟨z, rfl, hz, HC4, zk⟩
    have zp := zk.turn
    have sp := zp.size
    have hz64 : I64 z := i64_lits (by decide) z hz
    clear HC3 zk h3 hz
    replace hbx := hbx.trans zp
    replace R_0 := txc zp R_0
    replace R_f0 := txf zp R_f0
    replace R_1 := txc zp R_1
    replace R_f1 := txf zp R_f1
    replace X_0 := txc zp X_0
    replace X_f0 := txf zp X_f0
    replace X_1 := txc zp X_1
    replace X_f1 := txf zp X_f1
    replace cA := txc zp cA
    replace cV := txc zp cV
    replace fV := txf zp fV
    have oF := hput wp z hz64 (fun k h1 h2 => (zp.block k (by omega) (by omega)).trans (zr.block k (by omega)))
    refine hK9.out _ _ ⟨X_1, cA⟩ (fun hHeld => ?_)
    clear hK9 K9 hput
    try simp only [Act.put, lgA, lgB, lgC, lgD, lgE, lgF]
    refine wpAnyH_take (i := 8) (v := ?v8_47) rfl (by kernel_rfl) (by kernel_rfl) (by kernel_rfl) (fun _ _ _ h => h) (Or.inl ⟨by rfl, ?hy8_47⟩) (by assumption) ?rest8_47
    case hy8_47 => intro w hSw; (try dsimp only at hSw); go_simp; (try with_reducible rfl)
    try simp only [Act.put, lgA, lgB, lgC, lgD, lgE, lgF]
    refine wpAnyH_ready (rs := [9]) (by kernel_rfl) (by simp) ?_
    refine AllReadyH.cons rfl (fun K9 hK9 => ?_) AllReadyH.nil
    go_simp
    obtain ⟨wF, hwF⟩ : ∃ W, W = wp.setCell ⟨gV, 0, none⟩ (.int .i64 z) := ⟨_, rfl⟩
    have zF : Below lo4 wp wF := by rw [hwF]; exact Below.setCell (Below.refl _ _) (by simp only []; omega) _
    have tF : Turn gV (gV + 1) wp wF := by rw [hwF]; exact (turn_refl gV (gV + 1) wp).setIn (p := ⟨gV, _, none⟩) (Nat.le_refl _) (Nat.lt_succ_self _) _
    rw [← hwF] at oF ⊢
    clear hwF
    have hbF := turn_on' hbx (zF.mono (by omega))
    have HCF := HC4.below' zF (by omega)
    have sF := zF.size
    clear hbx HC4
    replace R_0 := bxc zF R_0
    replace R_f0 := bxf zF R_f0
    replace R_1 := bxc zF R_1
    replace R_f1 := bxf zF R_f1
    replace X_0 := txc tF X_0
    replace X_f0 := txf tF X_f0
    replace X_1 := txc tF X_1
    replace X_f1 := txf tF X_f1
    replace cA := txc tF cA
    obtain ⟨zs, hzs⟩ : ∃ q, y.2.set 0 (x0.1, x0.2.set 0 z) = q := ⟨_, rfl⟩
    have hzl : zs.length = y.2.length := by rw [← hzs, List.length_set]
    have hz3 : Hid (∀ a ∈ zs, a.2.length ≤ 3) := Lib.hid (by
      intro a ha
      rw [← hzs] at ha
      rcases List.mem_or_eq_of_mem_set ha with ha | ha
      · exact (hy3 a ha).2
      · subst ha
        first
          | exact (by decide : 0 ≤ 3)
          | (show (List.set _ _ _).length ≤ 3; rw [List.length_set]; exact hv3))
    rw [hzs] at oF
    refine hK9.out _ _ ⟨X_1, cA⟩ (fun hHeld => ?_)
    clear hK9 K9 hzs zF tF cV fV cA zr zp
    try simp only [Act.put, lgA, lgB, lgC, lgD, lgE, lgF]
    refine wpAnyH_done (by kernel_rfl) ?_ _
    refine NoPanic.normal ?_
    go_wp2_with fail
    refine bodyPost_ret (v := .agg #[.int .i64 y.1, .slice (some ⟨gA, 0, none⟩) y.2.length c]) (by simp [results, Tryz.results52, go_sem, R_0, R_1, R_f0, R_f1]) rfl ?_
    refine ⟨y.1, some ⟨gA, 0, none⟩, y.2.length, c, ((y.1, zs) : DQ), rfl, ?_, ⟨⟨by show 1 ≤ zs.length; omega, by show zs.length ≤ 5; omega⟩, hz3.out⟩, ?_, ?_⟩
    · refine Own.mono (lo := lo4) (hi := hi5) ?_ (by omega) (by simp [World.setCell]; omega)
      repeat (refine own_off ?_ rfl (by simp only []; omega))
      exact (oQ_mk (x := (y.1, zs)) hI0 oF (Nat.le_refl _) (Nat.le_refl _))
    · refine Cur.below' (C := w.heap.size) HCF ?_ hcb
      repeat (refine Below.setCell ?_ (by simp only []; omega) _)
      exact Below.refl _ _
    · refine turn_on' hbF ?_
      repeat (refine Below.setCell ?_ (by simp only []; omega) _)
      exact Below.refl _ _
  have n0 : (k1 == 0) = false := by rw [beq_eq_false_iff_ne]; exact a0
  have n1 : (k1 == 1) = false := by rw [beq_eq_false_iff_ne]; exact a1
  have n2 : (k1 == 2) = false := by rw [beq_eq_false_iff_ne]; exact a2
  have n3 : (k1 == 3) = false := by rw [beq_eq_false_iff_ne]; exact a3
  go_wp2_with fail
  refine bodyPost_ret (v := .agg #[.int .i64 y.1, .slice (b) y.2.length c]) (by simp [results, Tryz.results52, go_sem, R_0, R_1, R_f0, R_f1]) rfl ?_
  refine ⟨y.1, b, y.2.length, c, y, rfl, ?_, ⟨⟨hy2.1, by omega⟩, fun a ha => (hy3 a ha).2⟩, ?_, ?_⟩
  · refine Own.mono (lo := lo4) (hi := hi5) ?_ (by omega) (by simp [World.setCell]; omega)
    repeat (refine own_off ?_ rfl (by simp only []; omega))
    exact (oQ_mk (x := y) hI0 oas (Nat.le_refl _) (Nat.le_refl _))
  · refine Cur.below' (C := w.heap.size) HC ?_ hcb
    repeat (refine Below.setCell ?_ (by simp only []; omega) _)
    exact Below.refl _ _
  · refine turn_on' hb6 ?_
    repeat (refine Below.setCell ?_ (by simp only []; omega) _)
    exact Below.refl _ _

theorem l7Any_any (w : World) (cb : Nat) (ba : Option Addr) (bn bc : Nat) (HC : Cur w cb ba bn bc) (hcb : cb < w.heap.size) :
    Calls Tryz.prog 52 #[.pointer (some ⟨cb, 0, none⟩)] w fun e w' => AnyQ w w' cb ba bn bc e := by
  refine (l7Any_any3 w cb ba bn bc HC hcb).mono ?_
  rintro e w' ⟨c0, b, n, c, x, h1, h2, h3, h4, h5⟩
  exact ⟨c0, b, n, c, x, h1, h2, h3.1, h4, h5⟩

end Go.Proofs.YtpgfkjcekhifiaaGreat
