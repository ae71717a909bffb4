/- Texts joined for one claim: Draw4, DbOwn, Draw5. -/
import Derived.Test.YtehcjdbljdpmbaaQ0f3a443e86
import Derived.Test.YtehcjdbljdpmbaaQ97469d5ac6
import Derived.Test.YtehcjdbljdpmbaaQf757018822
import Derived.Deep.RegionHeld3

/- Contracts: the reference's draws (4): any table. -/
namespace Go.Proofs.Ytehcjdbljdpmbaa
open Go.RowKit
set_option linter.unusedVariables false
set_option linter.unusedSimpArgs false
set_option synthInstance.maxSize 2000
set_option synthInstance.maxHeartbeats 400000

theorem ints_three (W : World) (x y z : Int) (hx : I64 x) (hy : I64 y) (hz : I64 z) : Ints (W.alloc (.cells #[.int .i64 x, .int .i64 y, .int .i64 z] 3)) (some ⟨W.heap.size, 0, none⟩) 3 [x, y, z] :=
  ⟨rfl, by omega, fun i hi => by
    refine ⟨W.heap.size, 0, rfl, ?_⟩
    rw [Nat.zero_add]
    rcases (by omega : i = 0 ∨ i = 1 ∨ i = 2) with rfl | rfl | rfl <;> exact box_cell (Below.refl _ _) rfl, fun u hu => by
    simp only [List.mem_cons, List.not_mem_nil, or_false] at hu
    rcases hu with rfl | rfl | rfl <;> assumption⟩
/-- One number, three numbers laid in a slice. -/
theorem own_lit1 {W : World} {a : Int} (ha : I64 a) : Own oI W.heap.size (W.heap.size + 1) (W.alloc (.cells #[.int .i64 a] 3)) [.slice (some ⟨W.heap.size, 0, none⟩) 1 1] [a] := by
  have h : OwnInts W.heap.size (W.alloc (.cells #[.int .i64 a] 3)) (.slice (some ⟨W.heap.size, 0, none⟩) 1 1) 1 [a] :=
    ⟨rfl, ⟨rfl, .inr ⟨W.heap.size, 1, #[.int .i64 a], rfl, Nat.le_refl _, heap_alloc_new W _, Nat.le_refl _, by unfold maxLen; omega, rfl, rfl⟩⟩, by intro x hx; simp at hx; rcases hx with rfl; assumption⟩
  have h9 := h.own
  simpa using h9
theorem own_lit3 {W : World} {a b c : Int} (ha : I64 a) (hb : I64 b) (hc : I64 c) : Own oI W.heap.size (W.heap.size + 1) (W.alloc (.cells #[.int .i64 a, .int .i64 b, .int .i64 c] 3)) [.slice (some ⟨W.heap.size, 0, none⟩) 3 3] [a, b, c] := by
  have h : OwnInts W.heap.size (W.alloc (.cells #[.int .i64 a, .int .i64 b, .int .i64 c] 3)) (.slice (some ⟨W.heap.size, 0, none⟩) 3 3) 3 [a, b, c] :=
    ⟨rfl, ⟨rfl, .inr ⟨W.heap.size, 3, #[.int .i64 a, .int .i64 b, .int .i64 c], rfl, Nat.le_refl _, heap_alloc_new W _, Nat.le_refl _, by unfold maxLen; omega, rfl, rfl⟩⟩, by intro x hx; simp at hx; rcases hx with rfl | rfl | rfl <;> assumption⟩
  have h9 := h.own
  simpa using h9
theorem own_off {α : Type} {o : OS α} {lo hi : Nat} {w w' : World} {cs : List Value} {x : α} (h : Own o lo hi w cs x) {p : Addr} {u : Value} (hw : w' = w.setCell p u) (hp : p.block < lo ∨ hi ≤ p.block) : Own o lo hi w' cs x := by
  subst hw
  obtain ⟨fp, h1, h2, h3⟩ := h
  exact ⟨fp, o.frame h1 (fun k hk => Below.heap_setCell _ _ _ _ (by have := h3 k hk; omega)), h2, h3⟩
/-- As own_row: only the blocks of the rows turn; a store between the rows and the new row leaves them. -/
theorem own_rowT {lo hi h1 h2 : Nat} {W W1 : World} {v : Value} {ys : List (List Int)} {b : Option Addr} {n0 c0 : Nat} {r : List Int} (ty : TypeId) (h : Own oII lo hi W [v] ys) (hr : Own oI h1 h2 W [.slice b n0 c0] r) (hh2 : h2 ≤ W.heap.size) (hlo : lo ≤ hi) (hh1 : hi ≤ h1) (hhi : h1 ≤ h2) (hn : ys.length ≤ 1000000) (hW1 : W1 = W.alloc (.cells #[.slice b n0 c0] 24)) :
    ∃ a n c w', (Builtin.append_ #[32, 32] ty #[v, .slice (some ⟨W.heap.size, 0, none⟩) 1 1]).run Try.prog W1 = .ok (.slice a n c) w' ∧ Own oII lo w'.heap.size w' [.slice a n c] (ys ++ [r]) ∧ Turn lo hi W w' ∧ W.heap.size < w'.heap.size ∧ ∀ (p : Addr) (u : Value), hi ≤ p.block → p.block < h1 → Own oII lo w'.heap.size (w'.setCell p u) [.slice a n c] (ys ++ [r]) := by
  obtain ⟨fu, a2, a4, a9⟩ := h
  obtain ⟨fr, b2, b4, b9⟩ := hr
  obtain ⟨a, n, c, w', fu', hrun, c1, c2, c3, c4, ⟨c5, c6, c7⟩, c8⟩ := run_app_fp (W := W) (W1 := W1) Try.underlying32 infoRow3 rfl (by decide) (by decide) (o' := oI) rfl ty v ys [.slice b n0 c0] r fu fr a2 a4 b2 b4 (fun k hk hk2 => by have := a9 k hk2; have := b9 k hk; omega) (by intro z hz; simp at hz; subst hz; rfl) (by omega) hW1
  have hr2 : ∀ k ∈ fu', lo ≤ k ∧ k < w'.heap.size := fun k hk => by
    rcases c3 k hk with h9 | h9 | h9
    · have := a9 k h9; omega
    · have := b9 k h9; omega
    · omega
  refine ⟨a, n, c, w', hrun, ⟨fu', c1, c2, hr2⟩, ⟨c5, c6, c7, by omega, fun k h1 hk => c8 k h1 (fun hk2 => by have := a9 k hk2; omega)⟩, c4, fun p u hp hp2 => ⟨fu', OS.frame oII c1 (fun k hk => Below.heap_setCell _ _ _ _ (fun e => ?_)), c2, hr2⟩⟩
  rcases c3 k hk with h9 | h9 | h9
  · have := a9 k h9; omega
  · have := b9 k h9; omega
  · omega
/-- What l4Any gives. -/
def AnyT (w w' : World) (cb : Nat) (ba : Option Addr) (bn bc : Nat) (e : Ending) : Prop :=
  ∃ (nm : ByteArray) (a : Int) (b : Option Addr) (n c : Nat) (rows : List (List Int)), e = .returned (.agg #[.string nm, .int .i64 a, .slice b n c]) ∧ nm.size ≤ 5 ∧ -1 ≤ a ∧ a ≤ 4 ∧ Own oII w.heap.size w'.heap.size w' [.slice b n c] rows ∧ rows.length ≤ 10 ∧ (∀ r ∈ rows, r.length ≤ 3 ∧ ∀ v ∈ r, 0 ≤ v ∧ v ≤ 1000000) ∧ Cur w' cb ba bn bc ∧ Turn cb (cb + 1) w w'

set_option maxRecDepth 100000 in
set_option maxHeartbeats 2000000 in
theorem l4Any_any (w : World) (cb : Nat) (ba : Option Addr) (bn bc : Nat) (HC : Cur w cb ba bn bc) (hcb : cb < w.heap.size) :
    Calls Try.prog 85 #[.pointer (some ⟨cb, 0, none⟩)] w fun e w' => AnyT w w' cb ba bn bc e := by
  have ht0 : Turn cb (cb + 1) w w := (Kept.refl cb (cb + 1) w).turn
  go_enter Try.func85, Try.ntmps85
  obtain ⟨w1, hw1⟩ : ∃ W, W = w.alloc (.cells #[.string (ByteArray.mk #[]), .int .i64 0, .slice none 0 0] 34) := ⟨_, rfl⟩
  have z1 : Below w.heap.size w w1 := by rw [hw1]; exact (Below.refl _ _).alloc (Nat.le_refl _) _
  have s1 : w1.heap.size = w.heap.size + 1 := by rw [hw1]; simp
  have hb1 := turn_on' ht0 (z1.mono (by omega))
  replace HC := HC.below' z1 (by omega)
  have R_0 : w1.cell? ⟨w.heap.size, 0, none⟩ = some (.string (ByteArray.mk #[])) := by rw [hw1]; exact box_cell (Below.refl _ _) rfl
  have R_1 : w1.cell? ⟨w.heap.size, 1, none⟩ = some (.int .i64 0) := by rw [hw1]; exact box_cell (Below.refl _ _) rfl
  have R_2 : w1.cell? ⟨w.heap.size, 2, none⟩ = some (.slice none 0 0) := by rw [hw1]; exact box_cell (Below.refl _ _) rfl
  have R_f0 : w1.frozen? ⟨w.heap.size, 0, none⟩ = false := by rw [hw1]; exact box_frozen (Below.refl _ _)
  have R_f1 : w1.frozen? ⟨w.heap.size, 1, none⟩ = false := by rw [hw1]; exact box_frozen (Below.refl _ _)
  have R_f2 : w1.frozen? ⟨w.heap.size, 2, none⟩ = false := by rw [hw1]; exact box_frozen (Below.refl _ _)
  have raw1_R_0 := R_0
  have raw1_R_1 := R_1
  have raw1_R_2 := R_2
  rw [hw1] at raw1_R_0 raw1_R_1 raw1_R_2
  obtain ⟨w2, hw2⟩ : ∃ W, W = w1.alloc (.cells #[.string (ByteArray.mk #[114]), .string (ByteArray.mk #[115]), .string (ByteArray.mk #[116])] 9) := ⟨_, rfl⟩
  have z2 : Below w1.heap.size w1 w2 := by rw [hw2]; exact (Below.refl _ _).alloc (Nat.le_refl _) _
  have s2 : w2.heap.size = w1.heap.size + 1 := by rw [hw2]; simp
  have hb2 := turn_on' hb1 (z2.mono (by omega))
  replace HC := HC.below' z2 (by omega)
  replace R_0 := (z2.cell (p := ⟨w.heap.size, 0, none⟩) (by simp only []; omega)).trans R_0
  replace R_1 := (z2.cell (p := ⟨w.heap.size, 1, none⟩) (by simp only []; omega)).trans R_1
  replace R_2 := (z2.cell (p := ⟨w.heap.size, 2, none⟩) (by simp only []; omega)).trans R_2
  replace R_f0 := (z2.frozen (p := ⟨w.heap.size, 0, none⟩) (by simp only []; omega)).trans R_f0
  replace R_f1 := (z2.frozen (p := ⟨w.heap.size, 1, none⟩) (by simp only []; omega)).trans R_f1
  replace R_f2 := (z2.frozen (p := ⟨w.heap.size, 2, none⟩) (by simp only []; omega)).trans R_f2
  have e2 : w1.heap.size = w.heap.size + 1 := by omega
  have N_0 : w2.cell? ⟨w1.heap.size, 0, none⟩ = some (.string (ByteArray.mk #[114])) := by rw [hw2]; exact box_cell (Below.refl _ _) rfl
  have N_1 : w2.cell? ⟨w1.heap.size, 1, none⟩ = some (.string (ByteArray.mk #[115])) := by rw [hw2]; exact box_cell (Below.refl _ _) rfl
  have N_2 : w2.cell? ⟨w1.heap.size, 2, none⟩ = some (.string (ByteArray.mk #[116])) := by rw [hw2]; exact box_cell (Below.refl _ _) rfl
  rw [e2] at N_0 N_1 N_2
  have raw2_R_0 := R_0
  have raw2_R_1 := R_1
  have raw2_R_2 := R_2
  have raw2_N_0 := N_0
  have raw2_N_1 := N_1
  have raw2_N_2 := N_2
  rw [hw2, hw1] at raw2_R_0 raw2_R_1 raw2_R_2 raw2_N_0 raw2_N_1 raw2_N_2
  have HN : Hid (∀ i, i < 3 → ∃ s, s ∈ [ByteArray.mk #[114], ByteArray.mk #[115], ByteArray.mk #[116]] ∧ w2.cell? ⟨w.heap.size + 1, i, none⟩ = some (.string s)) := Lib.hid (fun i hi => by
    rcases (by omega : i = 0 ∨ i = 1 ∨ i = 2) with rfl | rfl | rfl
    · exact ⟨ByteArray.mk #[114], by simp, N_0⟩
    · exact ⟨ByteArray.mk #[115], by simp, N_1⟩
    · exact ⟨ByteArray.mk #[116], by simp, N_2⟩)
  clear N_0 N_1 N_2
  go_wp2_with fail
  rw [← hw1]
  rw [← hw2]
  clear hw2 hw1
  clear raw1_R_0 raw1_R_1 raw1_R_2 raw2_R_0 raw2_R_1 raw2_R_2 raw2_N_0 raw2_N_1 raw2_N_2
  have HC_o := HC
  clear HC
  refine (l1Pick_any _ cb ba bn bc (w.heap.size + 1) 3 3 _ (by omega) (by omega) HN.out (by omega) HC_o).mono ?_
  rintro e w3 ⟨nm, rfl, hnm, HC, z3⟩
  clear HC_o
  have s4 := Nat.le_of_eq z3.size
  have s4' := Nat.le_of_eq z3.size.symm
  replace z3 := z3.turn
  have hb4 := hb2.trans z3
  replace R_0 := (z3.cell (p := ⟨w.heap.size, 0, none⟩) (by simp only []; omega) (by simp only []; omega)).trans R_0
  replace R_1 := (z3.cell (p := ⟨w.heap.size, 1, none⟩) (by simp only []; omega) (by simp only []; omega)).trans R_1
  replace R_2 := (z3.cell (p := ⟨w.heap.size, 2, none⟩) (by simp only []; omega) (by simp only []; omega)).trans R_2
  replace R_f0 := (World.frozen?_of_block (a := ⟨w.heap.size, 0, none⟩) (z3.block _ (by simp only []; omega) (by simp only []; omega))).trans R_f0
  replace R_f1 := (World.frozen?_of_block (a := ⟨w.heap.size, 1, none⟩) (z3.block _ (by simp only []; omega) (by simp only []; omega))).trans R_f1
  replace R_f2 := (World.frozen?_of_block (a := ⟨w.heap.size, 2, none⟩) (z3.block _ (by simp only []; omega) (by simp only []; omega))).trans R_f2
  have hns : nm.size ≤ 5 := by
    simp only [List.mem_cons, List.not_mem_nil, or_false] at hnm
    rcases hnm with rfl | rfl | rfl <;> decide
  clear hnm HN
  go_wp2_with fail
  have HC_o := HC
  clear HC
  refine (l1Below_any _ cb ba bn bc 3 (by omega) HC_o).mono ?_
  rintro e w5 ⟨k0, rfl, hk0, hk1, hk2, HC, z5⟩
  clear HC_o
  have s6 := Nat.le_of_eq z5.size
  have s6' := Nat.le_of_eq z5.size.symm
  replace z5 := z5.turn
  have hb6 := hb4.trans z5
  replace R_0 := (z5.cell (p := ⟨w.heap.size, 0, none⟩) (by simp only []; omega) (by simp only []; omega)).trans R_0
  replace R_1 := (z5.cell (p := ⟨w.heap.size, 1, none⟩) (by simp only []; omega) (by simp only []; omega)).trans R_1
  replace R_2 := (z5.cell (p := ⟨w.heap.size, 2, none⟩) (by simp only []; omega) (by simp only []; omega)).trans R_2
  replace R_f0 := (World.frozen?_of_block (a := ⟨w.heap.size, 0, none⟩) (z5.block _ (by simp only []; omega) (by simp only []; omega))).trans R_f0
  replace R_f1 := (World.frozen?_of_block (a := ⟨w.heap.size, 1, none⟩) (z5.block _ (by simp only []; omega) (by simp only []; omega))).trans R_f1
  replace R_f2 := (World.frozen?_of_block (a := ⟨w.heap.size, 2, none⟩) (z5.block _ (by simp only []; omega) (by simp only []; omega))).trans R_f2
  obtain ⟨K, rfl⟩ := Int.eq_ofNat_of_zero_le hk0
  have hK : K ≤ 2 := by have := hk1 (by omega); omega
  clear hk0 hk1 hk2
  go_wp2_with fail
  rw [show (1 : Int) + (K : Int) = ((1 + K : Nat) : Int) by omega]
  have HBT : Hid (w5.heap.size = w5.heap.size) := Lib.hid rfl
  obtain ⟨lo4, hlo4⟩ : ∃ q, q = w5.heap.size := ⟨_, rfl⟩
  have HC_o := HC
  clear HC
  refine (l4Tab_any _ cb ba bn bc nm (1 + K) 6 4 (by omega) (by omega) (by omega) HC_o (by omega)).mono ?_
  rintro e w7 ⟨b, n, c, rows, rfl, ho, hrl, hrr, HC, z7⟩
  clear HC_o
  have s8 := z7.size
  have hb8 := hb6.trans z7
  replace R_0 := (z7.cell (p := ⟨w.heap.size, 0, none⟩) (by simp only []; omega) (by simp only []; omega)).trans R_0
  replace R_1 := (z7.cell (p := ⟨w.heap.size, 1, none⟩) (by simp only []; omega) (by simp only []; omega)).trans R_1
  replace R_2 := (z7.cell (p := ⟨w.heap.size, 2, none⟩) (by simp only []; omega) (by simp only []; omega)).trans R_2
  replace R_f0 := (World.frozen?_of_block (a := ⟨w.heap.size, 0, none⟩) (z7.block _ (by simp only []; omega) (by simp only []; omega))).trans R_f0
  replace R_f1 := (World.frozen?_of_block (a := ⟨w.heap.size, 1, none⟩) (z7.block _ (by simp only []; omega) (by simp only []; omega))).trans R_f1
  replace R_f2 := (World.frozen?_of_block (a := ⟨w.heap.size, 2, none⟩) (z7.block _ (by simp only []; omega) (by simp only []; omega))).trans R_f2
  rw [← hlo4] at ho
  obtain ⟨hi5, hhi5⟩ : ∃ q, q = w7.heap.size := ⟨_, rfl⟩
  rw [← hhi5] at ho
  have hlh : w.heap.size + 1 + 1 ≤ lo4 := by omega
  have hlh2 : lo4 ≤ hi5 := by omega
  have HRR := Lib.hid hrr
  clear hrr HBT
  obtain ⟨w9, hw9⟩ : ∃ W, W = w7.alloc (.cells #[.string nm, .int .i64 (1 + (K : Int)), .slice b n c] 34) := ⟨_, rfl⟩
  have z9 : Below w7.heap.size w7 w9 := by rw [hw9]; exact (Below.refl _ _).alloc (Nat.le_refl _) _
  have s9 : w9.heap.size = w7.heap.size + 1 := by rw [hw9]; simp
  have hb9 := turn_on' hb8 (z9.mono (by omega))
  have old9_R_0 := R_0
  have old9_R_1 := R_1
  have old9_R_2 := R_2
  replace HC := HC.below' z9 (by omega)
  replace R_0 := (z9.cell (p := ⟨w.heap.size, 0, none⟩) (by simp only []; omega)).trans R_0
  replace R_1 := (z9.cell (p := ⟨w.heap.size, 1, none⟩) (by simp only []; omega)).trans R_1
  replace R_2 := (z9.cell (p := ⟨w.heap.size, 2, none⟩) (by simp only []; omega)).trans R_2
  replace R_f0 := (z9.frozen (p := ⟨w.heap.size, 0, none⟩) (by simp only []; omega)).trans R_f0
  replace R_f1 := (z9.frozen (p := ⟨w.heap.size, 1, none⟩) (by simp only []; omega)).trans R_f1
  replace R_f2 := (z9.frozen (p := ⟨w.heap.size, 2, none⟩) (by simp only []; omega)).trans R_f2
  replace ho := ho.below z9 (by omega)
  have X_0 : w9.cell? ⟨w7.heap.size, 0, none⟩ = some (.string nm) := by rw [hw9]; exact box_cell (Below.refl _ _) rfl
  have X_1 : w9.cell? ⟨w7.heap.size, 1, none⟩ = some (.int .i64 (1 + (K : Int))) := by rw [hw9]; exact box_cell (Below.refl _ _) rfl
  have X_2 : w9.cell? ⟨w7.heap.size, 2, none⟩ = some (.slice b n c) := by rw [hw9]; exact box_cell (Below.refl _ _) rfl
  have X_f0 : w9.frozen? ⟨w7.heap.size, 0, none⟩ = false := by rw [hw9]; exact box_frozen (Below.refl _ _)
  have X_f1 : w9.frozen? ⟨w7.heap.size, 1, none⟩ = false := by rw [hw9]; exact box_frozen (Below.refl _ _)
  have X_f2 : w9.frozen? ⟨w7.heap.size, 2, none⟩ = false := by rw [hw9]; exact box_frozen (Below.refl _ _)
  have raw9_R_0 := R_0
  have raw9_R_1 := R_1
  have raw9_R_2 := R_2
  have raw9_X_0 := X_0
  have raw9_X_1 := X_1
  have raw9_X_2 := X_2
  rw [hw9] at raw9_R_0 raw9_R_1 raw9_R_2 raw9_X_0 raw9_X_1 raw9_X_2
  go_wp2_with fail
  rw [← hw9]
  clear hw9
  clear old9_R_0 old9_R_1 old9_R_2 raw9_R_0 raw9_R_1 raw9_R_2 raw9_X_0 raw9_X_1 raw9_X_2
  have HC_o := HC
  clear HC
  refine (l1Below_any _ cb ba bn bc 12 (by omega) HC_o).mono ?_
  rintro e w10 ⟨k1, rfl, hq0, hq1, hq2, HC, z10⟩
  clear HC_o
  have s11 := Nat.le_of_eq z10.size
  have s11' := Nat.le_of_eq z10.size.symm
  replace z10 := z10.turn
  have hb11 := hb9.trans z10
  replace R_0 := (z10.cell (p := ⟨w.heap.size, 0, none⟩) (by simp only []; omega) (by simp only []; omega)).trans R_0
  replace R_1 := (z10.cell (p := ⟨w.heap.size, 1, none⟩) (by simp only []; omega) (by simp only []; omega)).trans R_1
  replace R_2 := (z10.cell (p := ⟨w.heap.size, 2, none⟩) (by simp only []; omega) (by simp only []; omega)).trans R_2
  replace R_f0 := (World.frozen?_of_block (a := ⟨w.heap.size, 0, none⟩) (z10.block _ (by simp only []; omega) (by simp only []; omega))).trans R_f0
  replace R_f1 := (World.frozen?_of_block (a := ⟨w.heap.size, 1, none⟩) (z10.block _ (by simp only []; omega) (by simp only []; omega))).trans R_f1
  replace R_f2 := (World.frozen?_of_block (a := ⟨w.heap.size, 2, none⟩) (z10.block _ (by simp only []; omega) (by simp only []; omega))).trans R_f2
  replace ho := ho.turn z10 (by omega)
  replace X_0 := (z10.cell (p := ⟨w7.heap.size, 0, none⟩) (by simp only []; omega) (by simp only []; omega)).trans X_0
  replace X_1 := (z10.cell (p := ⟨w7.heap.size, 1, none⟩) (by simp only []; omega) (by simp only []; omega)).trans X_1
  replace X_2 := (z10.cell (p := ⟨w7.heap.size, 2, none⟩) (by simp only []; omega) (by simp only []; omega)).trans X_2
  replace X_f0 := (World.frozen?_of_block (a := ⟨w7.heap.size, 0, none⟩) (z10.block _ (by simp only []; omega) (by simp only []; omega))).trans X_f0
  replace X_f1 := (World.frozen?_of_block (a := ⟨w7.heap.size, 1, none⟩) (z10.block _ (by simp only []; omega) (by simp only []; omega))).trans X_f1
  replace X_f2 := (World.frozen?_of_block (a := ⟨w7.heap.size, 2, none⟩) (z10.block _ (by simp only []; omega) (by simp only []; omega))).trans X_f2
  clear hq0 hq1 hq2
  by_cases a0 : k1 = 0
  · subst a0
    obtain ⟨w12, hw12⟩ : ∃ W, W = w10.alloc (.cells #[.string (ByteArray.mk #[]), .string (ByteArray.mk #[82]), .string (ByteArray.mk #[114, 115]), .string (ByteArray.mk #[122])] 9) := ⟨_, rfl⟩
    have z12 : Below w10.heap.size w10 w12 := by rw [hw12]; exact (Below.refl _ _).alloc (Nat.le_refl _) _
    have s12 : w12.heap.size = w10.heap.size + 1 := by rw [hw12]; simp
    have hb12 := turn_on' hb11 (z12.mono (by omega))
    have old12_R_0 := R_0
    have old12_R_1 := R_1
    have old12_R_2 := R_2
    have old12_X_0 := X_0
    have old12_X_1 := X_1
    have old12_X_2 := X_2
    replace HC := HC.below' z12 (by omega)
    replace R_0 := (z12.cell (p := ⟨w.heap.size, 0, none⟩) (by simp only []; omega)).trans R_0
    replace R_1 := (z12.cell (p := ⟨w.heap.size, 1, none⟩) (by simp only []; omega)).trans R_1
    replace R_2 := (z12.cell (p := ⟨w.heap.size, 2, none⟩) (by simp only []; omega)).trans R_2
    replace R_f0 := (z12.frozen (p := ⟨w.heap.size, 0, none⟩) (by simp only []; omega)).trans R_f0
    replace R_f1 := (z12.frozen (p := ⟨w.heap.size, 1, none⟩) (by simp only []; omega)).trans R_f1
    replace R_f2 := (z12.frozen (p := ⟨w.heap.size, 2, none⟩) (by simp only []; omega)).trans R_f2
    replace ho := ho.below z12 (by omega)
    replace X_0 := (z12.cell (p := ⟨w7.heap.size, 0, none⟩) (by simp only []; omega)).trans X_0
    replace X_1 := (z12.cell (p := ⟨w7.heap.size, 1, none⟩) (by simp only []; omega)).trans X_1
    replace X_2 := (z12.cell (p := ⟨w7.heap.size, 2, none⟩) (by simp only []; omega)).trans X_2
    replace X_f0 := (z12.frozen (p := ⟨w7.heap.size, 0, none⟩) (by simp only []; omega)).trans X_f0
    replace X_f1 := (z12.frozen (p := ⟨w7.heap.size, 1, none⟩) (by simp only []; omega)).trans X_f1
    replace X_f2 := (z12.frozen (p := ⟨w7.heap.size, 2, none⟩) (by simp only []; omega)).trans X_f2
    have L_0 : w12.cell? ⟨w10.heap.size, 0, none⟩ = some (.string (ByteArray.mk #[])) := by rw [hw12]; exact box_cell (Below.refl _ _) rfl
    have L_1 : w12.cell? ⟨w10.heap.size, 1, none⟩ = some (.string (ByteArray.mk #[82])) := by rw [hw12]; exact box_cell (Below.refl _ _) rfl
    have L_2 : w12.cell? ⟨w10.heap.size, 2, none⟩ = some (.string (ByteArray.mk #[114, 115])) := by rw [hw12]; exact box_cell (Below.refl _ _) rfl
    have L_3 : w12.cell? ⟨w10.heap.size, 3, none⟩ = some (.string (ByteArray.mk #[122])) := by rw [hw12]; exact box_cell (Below.refl _ _) rfl
    have raw12_R_0 := R_0
    have raw12_R_1 := R_1
    have raw12_R_2 := R_2
    have raw12_X_0 := X_0
    have raw12_X_1 := X_1
    have raw12_X_2 := X_2
    have raw12_L_0 := L_0
    have raw12_L_1 := L_1
    have raw12_L_2 := L_2
    have raw12_L_3 := L_3
    rw [hw12] at raw12_R_0 raw12_R_1 raw12_R_2 raw12_X_0 raw12_X_1 raw12_X_2 raw12_L_0 raw12_L_1 raw12_L_2 raw12_L_3
    have HN : Hid (∀ i, i < 4 → ∃ s, s ∈ [ByteArray.mk #[], ByteArray.mk #[82], ByteArray.mk #[114, 115], ByteArray.mk #[122]] ∧ w12.cell? ⟨w10.heap.size, i, none⟩ = some (.string s)) := Lib.hid (fun i hi => by
      rcases (by omega : i = 0 ∨ i = 1 ∨ i = 2 ∨ i = 3) with rfl | rfl | rfl | rfl
      · exact ⟨ByteArray.mk #[], by simp, L_0⟩
      · exact ⟨ByteArray.mk #[82], by simp, L_1⟩
      · exact ⟨ByteArray.mk #[114, 115], by simp, L_2⟩
      · exact ⟨ByteArray.mk #[122], by simp, L_3⟩)
    clear L_0 L_1 L_2 L_3
    go_wp2_with fail
    rw [← hw12]
    clear hw12
    clear old12_R_0 old12_R_1 old12_R_2 old12_X_0 old12_X_1 old12_X_2 raw12_R_0 raw12_R_1 raw12_R_2 raw12_X_0 raw12_X_1 raw12_X_2 raw12_L_0 raw12_L_1 raw12_L_2 raw12_L_3
    have HC_o := HC
    clear HC
    refine (l1Pick_any _ cb ba bn bc _ 4 4 _ (by omega) (by omega) HN.out (by omega) HC_o).mono ?_
    rintro e w13 ⟨x, rfl, hx, HC, z13⟩
    clear HC_o
    have s14 := Nat.le_of_eq z13.size
    have s14' := Nat.le_of_eq z13.size.symm
    replace z13 := z13.turn
    have hb14 := hb12.trans z13
    replace R_0 := (z13.cell (p := ⟨w.heap.size, 0, none⟩) (by simp only []; omega) (by simp only []; omega)).trans R_0
    replace R_1 := (z13.cell (p := ⟨w.heap.size, 1, none⟩) (by simp only []; omega) (by simp only []; omega)).trans R_1
    replace R_2 := (z13.cell (p := ⟨w.heap.size, 2, none⟩) (by simp only []; omega) (by simp only []; omega)).trans R_2
    replace R_f0 := (World.frozen?_of_block (a := ⟨w.heap.size, 0, none⟩) (z13.block _ (by simp only []; omega) (by simp only []; omega))).trans R_f0
    replace R_f1 := (World.frozen?_of_block (a := ⟨w.heap.size, 1, none⟩) (z13.block _ (by simp only []; omega) (by simp only []; omega))).trans R_f1
    replace R_f2 := (World.frozen?_of_block (a := ⟨w.heap.size, 2, none⟩) (z13.block _ (by simp only []; omega) (by simp only []; omega))).trans R_f2
    replace ho := ho.turn z13 (by omega)
    replace X_0 := (z13.cell (p := ⟨w7.heap.size, 0, none⟩) (by simp only []; omega) (by simp only []; omega)).trans X_0
    replace X_1 := (z13.cell (p := ⟨w7.heap.size, 1, none⟩) (by simp only []; omega) (by simp only []; omega)).trans X_1
    replace X_2 := (z13.cell (p := ⟨w7.heap.size, 2, none⟩) (by simp only []; omega) (by simp only []; omega)).trans X_2
    replace X_f0 := (World.frozen?_of_block (a := ⟨w7.heap.size, 0, none⟩) (z13.block _ (by simp only []; omega) (by simp only []; omega))).trans X_f0
    replace X_f1 := (World.frozen?_of_block (a := ⟨w7.heap.size, 1, none⟩) (z13.block _ (by simp only []; omega) (by simp only []; omega))).trans X_f1
    replace X_f2 := (World.frozen?_of_block (a := ⟨w7.heap.size, 2, none⟩) (z13.block _ (by simp only []; omega) (by simp only []; omega))).trans X_f2
    have hxs : x.size ≤ 5 := by
      simp only [List.mem_cons, List.not_mem_nil, or_false] at hx
      rcases hx with rfl | rfl | rfl | rfl <;> decide
    clear hx HN
    go_wp2_with fail
    refine bodyPost_ret (v := .agg #[.string x, .int .i64 (1 + (K : Int)), .slice b n c]) (by simp [results, Try.results85, go_sem, R_0, R_1, R_2, R_f0, R_f1, R_f2]) rfl ⟨x, _, b, n, c, rows, rfl, hxs, by omega, by omega, ?_, by omega, fun r hr => ⟨by have := (HRR.out r hr).1; omega, (HRR.out r hr).2⟩, ?_, ?_⟩
    · refine Own.mono (lo := lo4) (hi := hi5) ?_ (by omega) (by simp [World.setCell]; omega)
      repeat (refine own_off ?_ rfl (by simp only []; omega))
      exact ho
    · refine Cur.below' (C := w.heap.size) HC ?_ hcb
      repeat (refine Below.setCell ?_ (by simp only []; omega) _)
      exact Below.refl _ _
    · refine turn_on' hb14 ?_
      repeat (refine Below.setCell ?_ (by simp only []; omega) _)
      exact Below.refl _ _
  by_cases a1 : k1 = 1
  · subst a1
    have h3 : Ints (w10.alloc (.cells #[.int .i64 0, .int .i64 4, .int .i64 (-1)] 3)) (some ⟨w10.heap.size, 0, none⟩) 3 [0, 4, -1] := ints_three _ _ _ _ (by constructor <;> decide) (by constructor <;> decide) (by constructor <;> decide)
    have HN0 := Lib.hid h3
    clear h3
    obtain ⟨w15, hw15⟩ : ∃ W, W = w10.alloc (.cells #[.int .i64 0, .int .i64 4, .int .i64 (-1)] 3) := ⟨_, rfl⟩
    have z15 : Below w10.heap.size w10 w15 := by rw [hw15]; exact (Below.refl _ _).alloc (Nat.le_refl _) _
    have s15 : w15.heap.size = w10.heap.size + 1 := by rw [hw15]; simp
    have hb15 := turn_on' hb11 (z15.mono (by omega))
    have old15_R_0 := R_0
    have old15_R_1 := R_1
    have old15_R_2 := R_2
    have old15_X_0 := X_0
    have old15_X_1 := X_1
    have old15_X_2 := X_2
    replace HC := HC.below' z15 (by omega)
    replace R_0 := (z15.cell (p := ⟨w.heap.size, 0, none⟩) (by simp only []; omega)).trans R_0
    replace R_1 := (z15.cell (p := ⟨w.heap.size, 1, none⟩) (by simp only []; omega)).trans R_1
    replace R_2 := (z15.cell (p := ⟨w.heap.size, 2, none⟩) (by simp only []; omega)).trans R_2
    replace R_f0 := (z15.frozen (p := ⟨w.heap.size, 0, none⟩) (by simp only []; omega)).trans R_f0
    replace R_f1 := (z15.frozen (p := ⟨w.heap.size, 1, none⟩) (by simp only []; omega)).trans R_f1
    replace R_f2 := (z15.frozen (p := ⟨w.heap.size, 2, none⟩) (by simp only []; omega)).trans R_f2
    replace ho := ho.below z15 (by omega)
    replace X_0 := (z15.cell (p := ⟨w7.heap.size, 0, none⟩) (by simp only []; omega)).trans X_0
    replace X_1 := (z15.cell (p := ⟨w7.heap.size, 1, none⟩) (by simp only []; omega)).trans X_1
    replace X_2 := (z15.cell (p := ⟨w7.heap.size, 2, none⟩) (by simp only []; omega)).trans X_2
    replace X_f0 := (z15.frozen (p := ⟨w7.heap.size, 0, none⟩) (by simp only []; omega)).trans X_f0
    replace X_f1 := (z15.frozen (p := ⟨w7.heap.size, 1, none⟩) (by simp only []; omega)).trans X_f1
    replace X_f2 := (z15.frozen (p := ⟨w7.heap.size, 2, none⟩) (by simp only []; omega)).trans X_f2
    have L_0 : w15.cell? ⟨w10.heap.size, 0, none⟩ = some (.int .i64 0) := by rw [hw15]; exact box_cell (Below.refl _ _) rfl
    have L_1 : w15.cell? ⟨w10.heap.size, 1, none⟩ = some (.int .i64 4) := by rw [hw15]; exact box_cell (Below.refl _ _) rfl
    have L_2 : w15.cell? ⟨w10.heap.size, 2, none⟩ = some (.int .i64 (-1)) := by rw [hw15]; exact box_cell (Below.refl _ _) rfl
    have raw15_R_0 := R_0
    have raw15_R_1 := R_1
    have raw15_R_2 := R_2
    have raw15_X_0 := X_0
    have raw15_X_1 := X_1
    have raw15_X_2 := X_2
    have raw15_L_0 := L_0
    have raw15_L_1 := L_1
    have raw15_L_2 := L_2
    rw [hw15] at raw15_R_0 raw15_R_1 raw15_R_2 raw15_X_0 raw15_X_1 raw15_X_2 raw15_L_0 raw15_L_1 raw15_L_2
    have HN := HN0.out
    rw [← hw15] at HN
    clear HN0
    clear L_0 L_1 L_2
    go_wp2_with fail
    rw [← hw15]
    clear hw15
    clear old15_R_0 old15_R_1 old15_R_2 old15_X_0 old15_X_1 old15_X_2 raw15_R_0 raw15_R_1 raw15_R_2 raw15_X_0 raw15_X_1 raw15_X_2 raw15_L_0 raw15_L_1 raw15_L_2
    have HC_o := HC
    clear HC
    refine (l1PickInt_any _ cb ba bn bc _ 3 3 _ (by omega) (by omega) HN (by omega) HC_o).mono ?_
    rintro e w16 ⟨x, rfl, hx, HC, z16⟩
    clear HC_o
    have s17 := Nat.le_of_eq z16.size
    have s17' := Nat.le_of_eq z16.size.symm
    replace z16 := z16.turn
    have hb17 := hb15.trans z16
    replace R_0 := (z16.cell (p := ⟨w.heap.size, 0, none⟩) (by simp only []; omega) (by simp only []; omega)).trans R_0
    replace R_1 := (z16.cell (p := ⟨w.heap.size, 1, none⟩) (by simp only []; omega) (by simp only []; omega)).trans R_1
    replace R_2 := (z16.cell (p := ⟨w.heap.size, 2, none⟩) (by simp only []; omega) (by simp only []; omega)).trans R_2
    replace R_f0 := (World.frozen?_of_block (a := ⟨w.heap.size, 0, none⟩) (z16.block _ (by simp only []; omega) (by simp only []; omega))).trans R_f0
    replace R_f1 := (World.frozen?_of_block (a := ⟨w.heap.size, 1, none⟩) (z16.block _ (by simp only []; omega) (by simp only []; omega))).trans R_f1
    replace R_f2 := (World.frozen?_of_block (a := ⟨w.heap.size, 2, none⟩) (z16.block _ (by simp only []; omega) (by simp only []; omega))).trans R_f2
    replace ho := ho.turn z16 (by omega)
    replace X_0 := (z16.cell (p := ⟨w7.heap.size, 0, none⟩) (by simp only []; omega) (by simp only []; omega)).trans X_0
    replace X_1 := (z16.cell (p := ⟨w7.heap.size, 1, none⟩) (by simp only []; omega) (by simp only []; omega)).trans X_1
    replace X_2 := (z16.cell (p := ⟨w7.heap.size, 2, none⟩) (by simp only []; omega) (by simp only []; omega)).trans X_2
    replace X_f0 := (World.frozen?_of_block (a := ⟨w7.heap.size, 0, none⟩) (z16.block _ (by simp only []; omega) (by simp only []; omega))).trans X_f0
    replace X_f1 := (World.frozen?_of_block (a := ⟨w7.heap.size, 1, none⟩) (z16.block _ (by simp only []; omega) (by simp only []; omega))).trans X_f1
    replace X_f2 := (World.frozen?_of_block (a := ⟨w7.heap.size, 2, none⟩) (z16.block _ (by simp only []; omega) (by simp only []; omega))).trans X_f2
    have hxr : -1 ≤ x ∧ x ≤ 4 := by
      simp only [List.mem_cons, List.not_mem_nil, or_false] at hx
      omega
    clear hx HN
    go_wp2_with fail
    refine bodyPost_ret (v := .agg #[.string nm, .int .i64 x, .slice b n c]) (by simp [results, Try.results85, go_sem, R_0, R_1, R_2, R_f0, R_f1, R_f2]) rfl ⟨nm, x, b, n, c, rows, rfl, hns, hxr.1, hxr.2, ?_, by omega, fun r hr => ⟨by have := (HRR.out r hr).1; omega, (HRR.out r hr).2⟩, ?_, ?_⟩
    · refine Own.mono (lo := lo4) (hi := hi5) ?_ (by omega) (by simp [World.setCell]; omega)
      repeat (refine own_off ?_ rfl (by simp only []; omega))
      exact ho
    · refine Cur.below' (C := w.heap.size) HC ?_ hcb
      repeat (refine Below.setCell ?_ (by simp only []; omega) _)
      exact Below.refl _ _
    · refine turn_on' hb17 ?_
      repeat (refine Below.setCell ?_ (by simp only []; omega) _)
      exact Below.refl _ _
  by_cases a2 : k1 = 2
  · subst a2
    have oL := own_lit1 (W := w10) (a := 0) (by constructor <;> decide)
    obtain ⟨w18, hw18⟩ : ∃ W, W = w10.alloc (.cells #[.int .i64 0] 3) := ⟨_, rfl⟩
    have z18 : Below w10.heap.size w10 w18 := by rw [hw18]; exact (Below.refl _ _).alloc (Nat.le_refl _) _
    have s18 : w18.heap.size = w10.heap.size + 1 := by rw [hw18]; simp
    have hb18 := turn_on' hb11 (z18.mono (by omega))
    have old18_R_0 := R_0
    have old18_R_1 := R_1
    have old18_R_2 := R_2
    have old18_X_0 := X_0
    have old18_X_1 := X_1
    have old18_X_2 := X_2
    replace HC := HC.below' z18 (by omega)
    replace R_0 := (z18.cell (p := ⟨w.heap.size, 0, none⟩) (by simp only []; omega)).trans R_0
    replace R_1 := (z18.cell (p := ⟨w.heap.size, 1, none⟩) (by simp only []; omega)).trans R_1
    replace R_2 := (z18.cell (p := ⟨w.heap.size, 2, none⟩) (by simp only []; omega)).trans R_2
    replace R_f0 := (z18.frozen (p := ⟨w.heap.size, 0, none⟩) (by simp only []; omega)).trans R_f0
    replace R_f1 := (z18.frozen (p := ⟨w.heap.size, 1, none⟩) (by simp only []; omega)).trans R_f1
    replace R_f2 := (z18.frozen (p := ⟨w.heap.size, 2, none⟩) (by simp only []; omega)).trans R_f2
    replace ho := ho.below z18 (by omega)
    replace X_0 := (z18.cell (p := ⟨w7.heap.size, 0, none⟩) (by simp only []; omega)).trans X_0
    replace X_1 := (z18.cell (p := ⟨w7.heap.size, 1, none⟩) (by simp only []; omega)).trans X_1
    replace X_2 := (z18.cell (p := ⟨w7.heap.size, 2, none⟩) (by simp only []; omega)).trans X_2
    replace X_f0 := (z18.frozen (p := ⟨w7.heap.size, 0, none⟩) (by simp only []; omega)).trans X_f0
    replace X_f1 := (z18.frozen (p := ⟨w7.heap.size, 1, none⟩) (by simp only []; omega)).trans X_f1
    replace X_f2 := (z18.frozen (p := ⟨w7.heap.size, 2, none⟩) (by simp only []; omega)).trans X_f2
    have L_0 : w18.cell? ⟨w10.heap.size, 0, none⟩ = some (.int .i64 0) := by rw [hw18]; exact box_cell (Below.refl _ _) rfl
    have raw18_R_0 := R_0
    have raw18_R_1 := R_1
    have raw18_R_2 := R_2
    have raw18_X_0 := X_0
    have raw18_X_1 := X_1
    have raw18_X_2 := X_2
    have raw18_L_0 := L_0
    rw [hw18] at raw18_R_0 raw18_R_1 raw18_R_2 raw18_X_0 raw18_X_1 raw18_X_2 raw18_L_0
    rw [← hw18] at oL
    obtain ⟨na, nn, nc, wn, hrn, _, hzn, hzs, on_⟩ := own_rowT 32 ho oL (by omega) (by omega) (by omega) (by omega) (by omega) rfl
    rw [s18] at hrn
    rw [hw18] at hrn
    have s19 := hzn.size
    have hq19 := hzn.below (by omega)
    have hb19 := turn_on' hb18 (hq19.mono (by omega))
    replace HC := HC.below' hq19 (by omega)
    replace R_0 := (hzn.cell (p := ⟨w.heap.size, 0, none⟩) (by simp only []; omega) (by simp only []; omega)).trans R_0
    replace R_1 := (hzn.cell (p := ⟨w.heap.size, 1, none⟩) (by simp only []; omega) (by simp only []; omega)).trans R_1
    replace R_2 := (hzn.cell (p := ⟨w.heap.size, 2, none⟩) (by simp only []; omega) (by simp only []; omega)).trans R_2
    replace R_f0 := (World.frozen?_of_block (a := ⟨w.heap.size, 0, none⟩) (hzn.block _ (by simp only []; omega) (by simp only []; omega))).trans R_f0
    replace R_f1 := (World.frozen?_of_block (a := ⟨w.heap.size, 1, none⟩) (hzn.block _ (by simp only []; omega) (by simp only []; omega))).trans R_f1
    replace R_f2 := (World.frozen?_of_block (a := ⟨w.heap.size, 2, none⟩) (hzn.block _ (by simp only []; omega) (by simp only []; omega))).trans R_f2
    replace X_0 := (hzn.cell (p := ⟨w7.heap.size, 0, none⟩) (by simp only []; omega) (by simp only []; omega)).trans X_0
    replace X_1 := (hzn.cell (p := ⟨w7.heap.size, 1, none⟩) (by simp only []; omega) (by simp only []; omega)).trans X_1
    replace X_2 := (hzn.cell (p := ⟨w7.heap.size, 2, none⟩) (by simp only []; omega) (by simp only []; omega)).trans X_2
    replace X_f0 := (World.frozen?_of_block (a := ⟨w7.heap.size, 0, none⟩) (hzn.block _ (by simp only []; omega) (by simp only []; omega))).trans X_f0
    replace X_f1 := (World.frozen?_of_block (a := ⟨w7.heap.size, 1, none⟩) (hzn.block _ (by simp only []; omega) (by simp only []; omega))).trans X_f1
    replace X_f2 := (World.frozen?_of_block (a := ⟨w7.heap.size, 2, none⟩) (hzn.block _ (by simp only []; omega) (by simp only []; omega))).trans X_f2
    obtain ⟨xn, hxn⟩ : ∃ q, q = wn.heap.size := ⟨_, rfl⟩
    rw [← hxn] at on_
    go_wp2_with ((at_builtin; refine wpList_app_run hrn rfl rfl rfl rfl rfl ?_))
    refine bodyPost_ret (v := .agg #[.string nm, .int .i64 (1 + (K : Int)), .slice na nn nc]) (by simp [results, Try.results85, go_sem, R_0, R_1, R_2, R_f0, R_f1, R_f2]) rfl ⟨nm, _, na, nn, nc, rows ++ [[0]], rfl, hns, by omega, by omega, ?_, by rw [List.length_append]; simp; omega, fun r hr => ?_, ?_, ?_⟩
    · refine Own.mono (lo := lo4) (hi := xn) ?_ (by omega) (by simp [World.setCell]; omega)
      repeat (refine own_off (p := ⟨w.heap.size, _, none⟩) ?_ rfl (by simp only []; omega))
      exact on_ _ _ (by simp only []; omega) (by simp only []; omega)
    · rcases List.mem_append.1 hr with hr | hr
      · exact ⟨by have := (HRR.out r hr).1; omega, (HRR.out r hr).2⟩
      · simp at hr; subst hr; exact ⟨by simp, by intro v hv; simp at hv; omega⟩
    · refine Cur.below' (C := w.heap.size) HC ?_ hcb
      repeat (refine Below.setCell ?_ (by simp only []; omega) _)
      exact Below.refl _ _
    · refine turn_on' hb19 ?_
      repeat (refine Below.setCell ?_ (by simp only []; omega) _)
      exact Below.refl _ _
  by_cases a3 : k1 = 3
  · subst a3
    have oL := own_lit3 (W := w10) (a := 9) (b := 9) (c := 10) (by constructor <;> decide) (by constructor <;> decide) (by constructor <;> decide)
    obtain ⟨w20, hw20⟩ : ∃ W, W = w10.alloc (.cells #[.int .i64 9, .int .i64 9, .int .i64 10] 3) := ⟨_, rfl⟩
    have z20 : Below w10.heap.size w10 w20 := by rw [hw20]; exact (Below.refl _ _).alloc (Nat.le_refl _) _
    have s20 : w20.heap.size = w10.heap.size + 1 := by rw [hw20]; simp
    have hb20 := turn_on' hb11 (z20.mono (by omega))
    have old20_R_0 := R_0
    have old20_R_1 := R_1
    have old20_R_2 := R_2
    have old20_X_0 := X_0
    have old20_X_1 := X_1
    have old20_X_2 := X_2
    replace HC := HC.below' z20 (by omega)
    replace R_0 := (z20.cell (p := ⟨w.heap.size, 0, none⟩) (by simp only []; omega)).trans R_0
    replace R_1 := (z20.cell (p := ⟨w.heap.size, 1, none⟩) (by simp only []; omega)).trans R_1
    replace R_2 := (z20.cell (p := ⟨w.heap.size, 2, none⟩) (by simp only []; omega)).trans R_2
    replace R_f0 := (z20.frozen (p := ⟨w.heap.size, 0, none⟩) (by simp only []; omega)).trans R_f0
    replace R_f1 := (z20.frozen (p := ⟨w.heap.size, 1, none⟩) (by simp only []; omega)).trans R_f1
    replace R_f2 := (z20.frozen (p := ⟨w.heap.size, 2, none⟩) (by simp only []; omega)).trans R_f2
    replace ho := ho.below z20 (by omega)
    replace X_0 := (z20.cell (p := ⟨w7.heap.size, 0, none⟩) (by simp only []; omega)).trans X_0
    replace X_1 := (z20.cell (p := ⟨w7.heap.size, 1, none⟩) (by simp only []; omega)).trans X_1
    replace X_2 := (z20.cell (p := ⟨w7.heap.size, 2, none⟩) (by simp only []; omega)).trans X_2
    replace X_f0 := (z20.frozen (p := ⟨w7.heap.size, 0, none⟩) (by simp only []; omega)).trans X_f0
    replace X_f1 := (z20.frozen (p := ⟨w7.heap.size, 1, none⟩) (by simp only []; omega)).trans X_f1
    replace X_f2 := (z20.frozen (p := ⟨w7.heap.size, 2, none⟩) (by simp only []; omega)).trans X_f2
    have L_0 : w20.cell? ⟨w10.heap.size, 0, none⟩ = some (.int .i64 9) := by rw [hw20]; exact box_cell (Below.refl _ _) rfl
    have L_1 : w20.cell? ⟨w10.heap.size, 1, none⟩ = some (.int .i64 9) := by rw [hw20]; exact box_cell (Below.refl _ _) rfl
    have L_2 : w20.cell? ⟨w10.heap.size, 2, none⟩ = some (.int .i64 10) := by rw [hw20]; exact box_cell (Below.refl _ _) rfl
    have raw20_R_0 := R_0
    have raw20_R_1 := R_1
    have raw20_R_2 := R_2
    have raw20_X_0 := X_0
    have raw20_X_1 := X_1
    have raw20_X_2 := X_2
    have raw20_L_0 := L_0
    have raw20_L_1 := L_1
    have raw20_L_2 := L_2
    rw [hw20] at raw20_R_0 raw20_R_1 raw20_R_2 raw20_X_0 raw20_X_1 raw20_X_2 raw20_L_0 raw20_L_1 raw20_L_2
    rw [← hw20] at oL
    obtain ⟨na, nn, nc, wn, hrn, _, hzn, hzs, on_⟩ := own_rowT 32 ho oL (by omega) (by omega) (by omega) (by omega) (by omega) rfl
    rw [s20] at hrn
    rw [hw20] at hrn
    have s21 := hzn.size
    have hq21 := hzn.below (by omega)
    have hb21 := turn_on' hb20 (hq21.mono (by omega))
    replace HC := HC.below' hq21 (by omega)
    replace R_0 := (hzn.cell (p := ⟨w.heap.size, 0, none⟩) (by simp only []; omega) (by simp only []; omega)).trans R_0
    replace R_1 := (hzn.cell (p := ⟨w.heap.size, 1, none⟩) (by simp only []; omega) (by simp only []; omega)).trans R_1
    replace R_2 := (hzn.cell (p := ⟨w.heap.size, 2, none⟩) (by simp only []; omega) (by simp only []; omega)).trans R_2
    replace R_f0 := (World.frozen?_of_block (a := ⟨w.heap.size, 0, none⟩) (hzn.block _ (by simp only []; omega) (by simp only []; omega))).trans R_f0
    replace R_f1 := (World.frozen?_of_block (a := ⟨w.heap.size, 1, none⟩) (hzn.block _ (by simp only []; omega) (by simp only []; omega))).trans R_f1
    replace R_f2 := (World.frozen?_of_block (a := ⟨w.heap.size, 2, none⟩) (hzn.block _ (by simp only []; omega) (by simp only []; omega))).trans R_f2
    replace X_0 := (hzn.cell (p := ⟨w7.heap.size, 0, none⟩) (by simp only []; omega) (by simp only []; omega)).trans X_0
    replace X_1 := (hzn.cell (p := ⟨w7.heap.size, 1, none⟩) (by simp only []; omega) (by simp only []; omega)).trans X_1
    replace X_2 := (hzn.cell (p := ⟨w7.heap.size, 2, none⟩) (by simp only []; omega) (by simp only []; omega)).trans X_2
    replace X_f0 := (World.frozen?_of_block (a := ⟨w7.heap.size, 0, none⟩) (hzn.block _ (by simp only []; omega) (by simp only []; omega))).trans X_f0
    replace X_f1 := (World.frozen?_of_block (a := ⟨w7.heap.size, 1, none⟩) (hzn.block _ (by simp only []; omega) (by simp only []; omega))).trans X_f1
    replace X_f2 := (World.frozen?_of_block (a := ⟨w7.heap.size, 2, none⟩) (hzn.block _ (by simp only []; omega) (by simp only []; omega))).trans X_f2
    obtain ⟨xn, hxn⟩ : ∃ q, q = wn.heap.size := ⟨_, rfl⟩
    rw [← hxn] at on_
    go_wp2_with ((at_builtin; refine wpList_app_run hrn rfl rfl rfl rfl rfl ?_))
    refine bodyPost_ret (v := .agg #[.string nm, .int .i64 (1 + (K : Int)), .slice na nn nc]) (by simp [results, Try.results85, go_sem, R_0, R_1, R_2, R_f0, R_f1, R_f2]) rfl ⟨nm, _, na, nn, nc, rows ++ [[9, 9, 10]], rfl, hns, by omega, by omega, ?_, by rw [List.length_append]; simp; omega, fun r hr => ?_, ?_, ?_⟩
    · refine Own.mono (lo := lo4) (hi := xn) ?_ (by omega) (by simp [World.setCell]; omega)
      repeat (refine own_off (p := ⟨w.heap.size, _, none⟩) ?_ rfl (by simp only []; omega))
      exact on_ _ _ (by simp only []; omega) (by simp only []; omega)
    · rcases List.mem_append.1 hr with hr | hr
      · exact ⟨by have := (HRR.out r hr).1; omega, (HRR.out r hr).2⟩
      · simp at hr; subst hr; exact ⟨by simp, by intro v hv; simp at hv; omega⟩
    · refine Cur.below' (C := w.heap.size) HC ?_ hcb
      repeat (refine Below.setCell ?_ (by simp only []; omega) _)
      exact Below.refl _ _
    · refine turn_on' hb21 ?_
      repeat (refine Below.setCell ?_ (by simp only []; omega) _)
      exact Below.refl _ _
  have n0 : (k1 == 0) = false := by rw [beq_eq_false_iff_ne]; exact a0
  have n1 : (k1 == 1) = false := by rw [beq_eq_false_iff_ne]; exact a1
  have n2 : (k1 == 2) = false := by rw [beq_eq_false_iff_ne]; exact a2
  have n3 : (k1 == 3) = false := by rw [beq_eq_false_iff_ne]; exact a3
  go_wp2_with fail
  refine bodyPost_ret (v := .agg #[.string nm, .int .i64 (1 + (K : Int)), .slice b n c]) (by simp [results, Try.results85, go_sem, R_0, R_1, R_2, R_f0, R_f1, R_f2]) rfl ⟨nm, _, b, n, c, rows, rfl, hns, by omega, by omega, ?_, by omega, fun r hr => ⟨by have := (HRR.out r hr).1; omega, (HRR.out r hr).2⟩, ?_, ?_⟩
  · refine Own.mono (lo := lo4) (hi := hi5) ?_ (by omega) (by simp [World.setCell]; omega)
    repeat (refine own_off ?_ rfl (by simp only []; omega))
    exact ho
  · refine Cur.below' (C := w.heap.size) HC ?_ hcb
    repeat (refine Below.setCell ?_ (by simp only []; omega) _)
    exact Below.refl _ _
  · refine turn_on' hb11 ?_
    repeat (refine Below.setCell ?_ (by simp only []; omega) _)
    exact Below.refl _ _

end Go.Proofs.Ytehcjdbljdpmbaa

/- One element of an owned slice replaced; tables appended to tables of one's own. -/
namespace Go.Proofs.Ytehcjdbljdpmbaa
open Go.RowKit
set_option linter.unusedVariables false
set_option linter.unusedSimpArgs false
set_option synthInstance.maxSize 2000
set_option synthInstance.maxHeartbeats 400000

theorem OS.rows_take {α : Type} (o : OS α) {w : World} : ∀ {css : List (List Value)} {xs : List α} {fps : List (List Nat)} (h : o.rows w css xs fps) (i : Nat), o.rows w (css.take i) (xs.take i) (fps.take i)
  | [], [], [], _, _ => by simp [OS.rows]
  | _ :: _, _ :: _, _ :: _, h, 0 => by simp [OS.rows]
  | _ :: _, _ :: _, _ :: _, h, i + 1 => by simp only [List.take_succ_cons]; exact ⟨h.1, o.rows_take h.2 i⟩
theorem OS.rows_put {α : Type} (o : OS α) {w w' : World} {c' : List Value} {x' : α} {f' : List Nat} (hr : o.rep w' c' x' f') : ∀ {css : List (List Value)} {xs : List α} {fps : List (List Nat)} (h : o.rows w css xs fps) (i : Nat), (∀ k ∈ fps.flatten, w'.heap[k]? = w.heap[k]?) → o.rows w' (css.set i c') (xs.set i x') (fps.set i f')
  | [], [], [], _, _, _ => by simp [OS.rows]
  | _ :: _, _ :: _, _ :: _, h, 0, hk => ⟨hr, o.rows_frame h.2 fun k hm => hk k (by simp only [List.flatten_cons]; exact List.mem_append_right _ hm)⟩
  | _ :: _, _ :: _, _ :: _, h, i + 1, hk => ⟨o.frame h.1 fun k hm => hk k (by simp only [List.flatten_cons]; exact List.mem_append_left _ hm), o.rows_put hr h.2 i fun k hm => hk k (by simp only [List.flatten_cons]; exact List.mem_append_right _ hm)⟩
theorem set_flatten {f' : List Nat} : ∀ {fps : List (List Nat)} (i : Nat), fps.flatten.Nodup → f'.Nodup → (∀ k ∈ f', k ∉ fps.flatten) → (fps.set i f').flatten.Nodup ∧ ∀ k ∈ (fps.set i f').flatten, k ∈ fps.flatten ∨ k ∈ f'
  | [], _, _, _, _ => by simp
  | f :: fs, 0, hn, hn', hd => by
    simp only [List.flatten_cons] at hn hd
    have h9 := List.nodup_append.1 hn
    refine ⟨?_, fun k hk => ?_⟩
    · simp only [List.set_cons_zero, List.flatten_cons]
      exact List.nodup_append.2 ⟨hn', h9.2.1, fun a ha b hb e => hd a ha (List.mem_append_right _ (e ▸ hb))⟩
    · simp only [List.set_cons_zero, List.flatten_cons] at hk ⊢
      rcases List.mem_append.1 hk with hk | hk
      · exact .inr hk
      · exact .inl (List.mem_append_right _ hk)
  | f :: fs, i + 1, hn, hn', hd => by
    simp only [List.flatten_cons] at hn hd
    have h9 := List.nodup_append.1 hn
    obtain ⟨i1, i2⟩ := set_flatten (fps := fs) i h9.2.1 hn' (fun k hk hm => hd k hk (List.mem_append_right _ hm))
    refine ⟨?_, fun k hk => ?_⟩
    · simp only [List.set_cons_succ, List.flatten_cons]
      refine List.nodup_append.2 ⟨h9.1, i1, fun a ha b hb e => ?_⟩
      subst e
      rcases i2 a hb with h8 | h8
      · exact h9.2.2 a ha a h8 rfl
      · exact hd a h8 (List.mem_append_left _ ha)
    · simp only [List.set_cons_succ, List.flatten_cons] at hk ⊢
      rcases List.mem_append.1 hk with hk | hk
      · exact .inl (List.mem_append_left _ hk)
      · rcases i2 k hk with h8 | h8
        · exact .inl (List.mem_append_right _ h8)
        · exact .inr h8

/-- One element of a slice of one's own: its cells in the slice's block, and the whole if it is replaced. -/
theorem own_put {α : Type} {t : TypeId} {o : OS α} {lo hi : Nat} {w : World} {a : Option Addr} {n cap : Nat} {xs : List α} (h : Own (O.slice t o) lo hi w [.slice a n cap] xs) {i : Nat} {x : α} (hx : xs[i]? = some x) :
    ∃ g c f pre post E, a = some ⟨g, 0, none⟩ ∧ lo ≤ g ∧ g < hi ∧ g < w.heap.size ∧ o.rep w c x f ∧ pre.length = i * o.size ∧ w.heap[g]? = some (.cells (pre ++ (c ++ post)).toArray E) ∧ (f.Nodup ∧ ∀ k ∈ f, lo ≤ k ∧ k < hi ∧ k ≠ g) ∧
      ∀ w' x' c' h1 h2, Own o h1 h2 w' c' x' → hi ≤ h1 → h1 ≤ h2 → w'.heap[g]? = some (.cells (pre ++ (c' ++ post)).toArray E) → (∀ k, lo ≤ k → k < hi → k ≠ g → w'.heap[k]? = w.heap[k]?) → Own (O.slice t o) lo h2 w' [.slice a n cap] (xs.set i x') := by
  obtain ⟨fp, h, hn, hrng⟩ := h
  have hlt := (O.slice t o).lt h
  obtain ⟨v, css, fps, hv, rfl, h1, h2⟩ := h
  simp at hv
  subst hv
  obtain ⟨c, f, hc, hf, hr⟩ := o.rows_get h2 i x hx
  have hnl := List.nodup_append.1 hn
  have hmem : ∀ k ∈ f, k ∈ fps.flatten := fun k hk => List.mem_flatten.2 ⟨f, List.mem_of_getElem? hf, hk⟩
  have hsub : f.Sublist fps.flatten := List.sublist_flatten_of_mem (List.mem_of_getElem? hf)
  have hix := (List.getElem?_eq_some_iff.1 hx).1
  have hic := (List.getElem?_eq_some_iff.1 hc).1
  rcases h1.2 with ⟨hv, h0⟩ | ⟨g, cap', cur, hv, hB, hg, hnc, hcm, hcs, htake⟩
  · omega
  simp at hv
  obtain ⟨rfl, rfl, rfl⟩ := hv
  have hcl := o.len hr
  have hgfp : g ∉ fps.flatten := fun hm => hnl.2.2 g (by simp [bl, Value.ownBlock]) g hm rfl
  have hsplit : css = css.take i ++ c :: css.drop (i + 1) := by
    conv => lhs; rw [← List.take_append_drop i css]
    rw [List.drop_eq_getElem_cons hic]
    congr 2
    exact (List.getElem?_eq_some_iff.1 hc).2
  have hpre : ((css.take i).flatten).length = i * o.size := by
    rw [(o.rows_len (o.rows_take h2 i)).2.2, List.length_take, Nat.min_eq_left (by omega)]
  have hgr := hrng g (by simp [bl, Value.ownBlock])
  refine ⟨g, c, f, (css.take i).flatten, (css.drop (i + 1)).flatten ++ cur.toList.drop (xs.length * o.size), t, rfl, hgr.1, hgr.2, hlt g (by simp [bl, Value.ownBlock]), hr, hpre, ?_, ⟨hsub.nodup hnl.2.1, fun k hk => ⟨(hrng k (List.mem_append_right _ (hmem k hk))).1, (hrng k (List.mem_append_right _ (hmem k hk))).2, fun e => hgfp (e ▸ hmem k hk)⟩⟩, ?_⟩
  · rw [hg]
    congr 2
    apply Array.ext'
    simp only []
    conv => lhs; rw [← List.take_append_drop (xs.length * o.size) cur.toList, htake, hsplit]
    simp
  · rintro w' x' c' h1' h2' ⟨f', hr', hn', hb'⟩ hh1 hh2 hg' hk
    have hcl' := o.len hr'
    have hsp' : css.set i c' = css.take i ++ c' :: css.drop (i + 1) := by
      rw [List.set_eq_take_append_cons_drop, if_pos hic]
    have hdis : ∀ k ∈ f', k ∉ fps.flatten := fun k hk1 hk2 => by
      have := hb' k hk1
      have := hrng k (List.mem_append_right _ hk2)
      omega
    obtain ⟨hsn, hsm⟩ := set_flatten i hnl.2.1 hn' hdis
    refine ⟨bl (.slice (some ⟨g, 0, none⟩) xs.length cap) ++ (fps.set i f').flatten, ⟨_, css.set i c', fps.set i f', rfl, rfl, ?_, ?_⟩, ?_, ?_⟩
    · refine ⟨?_, .inr ⟨g, cap, _, by rw [List.length_set], hB, hg', by rw [List.length_set]; exact hnc, hcm, ?_, ?_⟩⟩
      · have h9 := h1.1
        rw [hsplit] at h9
        rw [hsp', List.length_set]
        simp only [List.flatten_append, List.flatten_cons, List.length_append] at h9 ⊢
        omega
      · have h9 := h1.1
        rw [hsplit] at h9
        simp only [List.flatten_append, List.flatten_cons, List.length_append] at h9
        have h8 := Nat.mul_le_mul_right o.size hnc
        simp only [List.size_toArray, List.length_append, List.length_drop, Array.length_toList]
        omega
      · have h9 := h1.1
        rw [hsplit] at h9
        simp only [List.flatten_append, List.flatten_cons, List.length_append] at h9
        rw [List.length_set, hsp']
        simp only [List.flatten_append, List.flatten_cons]
        rw [show (css.take i).flatten ++ (c' ++ ((css.drop (i + 1)).flatten ++ cur.toList.drop (xs.length * o.size))) = ((css.take i).flatten ++ (c' ++ (css.drop (i + 1)).flatten)) ++ cur.toList.drop (xs.length * o.size) by simp]
        rw [List.take_append_of_le_length (by simp only [List.length_append]; omega), List.take_of_length_le (by simp only [List.length_append]; omega)]
    · exact o.rows_put hr' h2 i fun k hm => hk k (hrng k (List.mem_append_right _ hm)).1 (hrng k (List.mem_append_right _ hm)).2 (fun e => hgfp (e ▸ hm))
    · refine List.nodup_append.2 ⟨hnl.1, hsn, fun a ha b hb e => ?_⟩
      subst e
      simp [bl, Value.ownBlock] at ha
      subst ha
      rcases hsm a hb with h8 | h8
      · exact hgfp h8
      · have := hb' a h8; omega
    · intro k hk
      rcases List.mem_append.1 hk with hk | hk
      · have := hrng k (List.mem_append_left _ hk); omega
      · rcases hsm k hk with h8 | h8
        · have := hrng k (List.mem_append_right _ h8); omega
        · have := hb' k h8; omega

end Go.Proofs.Ytehcjdbljdpmbaa

/- Contracts: the reference's draws (5): a table and columns of it. -/
namespace Go.Proofs.Ytehcjdbljdpmbaa
open Go.RowKit
set_option linter.unusedVariables false
set_option linter.unusedSimpArgs false
set_option synthInstance.maxSize 2000
set_option synthInstance.maxHeartbeats 400000

/-- What a drawn table is, by its cells. -/
def DrawnT (lo hi : Nat) (w : World) (cs : List Value) (t : DT) : Prop := Own oT lo hi w cs t ∧ t.1.size ≤ 5 ∧ (-1 ≤ t.2.1 ∧ t.2.1 ≤ 4) ∧ t.2.2.length ≤ 10 ∧ ∀ r ∈ t.2.2, r.length ≤ 3
theorem DrawnT.mono {lo hi lo' hi' : Nat} {w : World} {cs : List Value} {t : DT} (h : DrawnT lo hi w cs t) (h1 : lo' ≤ lo) (h2 : hi ≤ hi') : DrawnT lo' hi' w cs t := ⟨h.1.mono h1 h2, h.2⟩
theorem DrawnT.turn {lo hi l2 h2 : Nat} {w w' : World} {cs : List Value} {t : DT} (h : DrawnT lo hi w cs t) (k : Turn l2 h2 w w') (hd : hi ≤ l2 ∨ h2 ≤ lo) : DrawnT lo hi w' cs t := ⟨h.1.turn k (by omega), h.2⟩
theorem DrawnT.off {lo hi : Nat} {w w' : World} {cs : List Value} {t : DT} (h : DrawnT lo hi w cs t) {p : Addr} {u : Value} (hw : w' = w.setCell p u) (hp : p.block < lo ∨ hi ≤ p.block) : DrawnT lo hi w' cs t := ⟨own_off h.1 hw hp, h.2⟩
theorem DrawnT.below {lo hi C : Nat} {w w' : World} {cs : List Value} {t : DT} (h : DrawnT lo hi w cs t) (hb : Below C w w') (hC : hi ≤ C) : DrawnT lo hi w' cs t := ⟨h.1.below hb hC, h.2⟩

set_option maxRecDepth 100000 in
set_option maxHeartbeats 2000000 in
theorem l10Pair_any (w : World) (ba : Option Addr) (bn bc : Nat) (hn : bn ≤ 2000000) (h : Bytes w w.heap.size ba bn) :
    Calls Try.prog 53 #[.slice ba bn bc] w fun e w' => ∃ (t : DT) (cols : List Int) (ub : Option Addr) (un uc : Nat) (cb : Option Addr) (cn cc : Nat), e = .returned (.tuple #[.agg #[.string t.1, .int .i64 t.2.1, .slice ub un uc], .slice cb cn cc]) ∧ DrawnT w.heap.size w'.heap.size w' [.string t.1, .int .i64 t.2.1, .slice ub un uc] t ∧ Own oI w.heap.size w'.heap.size w' [.slice cb cn cc] cols ∧ cols.length ≤ 4 ∧ Below w.heap.size w w' := by
  have hb0 : Below w.heap.size w w := Below.refl _ _
  go_enter Try.func53, Try.ntmps53
  obtain ⟨w1, hw1⟩ : ∃ W, W = w.alloc (.cells #[.string (ByteArray.mk #[]), .int .i64 0, .slice none 0 0] 34) := ⟨_, rfl⟩
  have z1 : Below w.heap.size w w1 := by rw [hw1]; exact (Below.refl _ _).alloc (Nat.le_refl _) _
  have s1 : w1.heap.size = w.heap.size + 1 := by rw [hw1]; simp
  have hb1 := on hb0 z1
  have R_0 : w1.cell? ⟨w.heap.size, 0, none⟩ = some (.string (ByteArray.mk #[])) := by rw [hw1]; exact box_cell (Below.refl _ _) rfl
  have R_1 : w1.cell? ⟨w.heap.size, 1, none⟩ = some (.int .i64 0) := by rw [hw1]; exact box_cell (Below.refl _ _) rfl
  have R_2 : w1.cell? ⟨w.heap.size, 2, none⟩ = some (.slice none 0 0) := by rw [hw1]; exact box_cell (Below.refl _ _) rfl
  have R_f0 : w1.frozen? ⟨w.heap.size, 0, none⟩ = false := by rw [hw1]; exact box_frozen (Below.refl _ _)
  have R_f1 : w1.frozen? ⟨w.heap.size, 1, none⟩ = false := by rw [hw1]; exact box_frozen (Below.refl _ _)
  have R_f2 : w1.frozen? ⟨w.heap.size, 2, none⟩ = false := by rw [hw1]; exact box_frozen (Below.refl _ _)
  have raw1_R_0 := R_0
  have raw1_R_1 := R_1
  have raw1_R_2 := R_2
  rw [hw1] at raw1_R_0 raw1_R_1 raw1_R_2
  have HBY := Lib.hid (h.kept (w' := w1) (fun k hk _ => hb1.block k hk))
  clear h
  go_wp2_with fail
  rw [← hw1]
  clear hw1
  clear raw1_R_0 raw1_R_1 raw1_R_2
  refine (l1New_any _ ba bn bc hn (⟨HBY.out.small, fun i hi => by obtain ⟨b, off, v, e1, e2, e3, e4⟩ := HBY.out.cell i hi; exact ⟨b, off, v, e1, by omega, e3, e4⟩⟩)).mono ?_
  rintro e w2 ⟨cb, rfl, HC, z2, hcb1, hcb2⟩
  have s3 := z2.size
  have hb3 := on hb1 z2
  replace R_0 := (z2.cell (p := ⟨w.heap.size, 0, none⟩) (by simp only []; omega)).trans R_0
  replace R_1 := (z2.cell (p := ⟨w.heap.size, 1, none⟩) (by simp only []; omega)).trans R_1
  replace R_2 := (z2.cell (p := ⟨w.heap.size, 2, none⟩) (by simp only []; omega)).trans R_2
  replace R_f0 := (z2.frozen (p := ⟨w.heap.size, 0, none⟩) (by simp only []; omega)).trans R_f0
  replace R_f1 := (z2.frozen (p := ⟨w.heap.size, 1, none⟩) (by simp only []; omega)).trans R_f1
  replace R_f2 := (z2.frozen (p := ⟨w.heap.size, 2, none⟩) (by simp only []; omega)).trans R_f2
  clear HBY
  go_wp2_with fail
  have HC_o := HC
  clear HC
  refine (l1Below_any _ cb ba bn bc 3 (by omega) HC_o).mono ?_
  rintro e w4 ⟨k0, rfl, hk0, hk1, hk2, HC, z4⟩
  clear HC_o
  have s5 := Nat.le_of_eq z4.size
  have s5' := Nat.le_of_eq z4.size.symm
  replace z4 := z4.turn
  have hb5 := hb3.trans ((z4.below (by omega)).mono (by omega))
  replace R_0 := (z4.cell (p := ⟨w.heap.size, 0, none⟩) (by simp only []; omega) (by simp only []; omega)).trans R_0
  replace R_1 := (z4.cell (p := ⟨w.heap.size, 1, none⟩) (by simp only []; omega) (by simp only []; omega)).trans R_1
  replace R_2 := (z4.cell (p := ⟨w.heap.size, 2, none⟩) (by simp only []; omega) (by simp only []; omega)).trans R_2
  replace R_f0 := (World.frozen?_of_block (a := ⟨w.heap.size, 0, none⟩) (z4.block _ (by simp only []; omega) (by simp only []; omega))).trans R_f0
  replace R_f1 := (World.frozen?_of_block (a := ⟨w.heap.size, 1, none⟩) (z4.block _ (by simp only []; omega) (by simp only []; omega))).trans R_f1
  replace R_f2 := (World.frozen?_of_block (a := ⟨w.heap.size, 2, none⟩) (z4.block _ (by simp only []; omega) (by simp only []; omega))).trans R_f2
  obtain ⟨K, rfl⟩ := Int.eq_ofNat_of_zero_le hk0
  have hK : K ≤ 2 := by have := hk1 (by omega); omega
  clear hk0 hk1 hk2
  go_wp2_with fail
  rw [show (1 : Int) + (K : Int) = ((1 + K : Nat) : Int) by omega]
  obtain ⟨lo4, hlo4⟩ : ∃ q, q = w4.heap.size := ⟨_, rfl⟩
  have HC_o := HC
  clear HC
  refine (l4Tab_any _ cb ba bn bc (ByteArray.mk #[114]) (1 + K) 8 3 (by omega) (by omega) (by omega) HC_o (by omega)).mono ?_
  rintro e w6 ⟨b, n, c, rows, rfl, ho, hrl, hrr, HC, z6⟩
  clear HC_o
  have s7 := z6.size
  have hb7 := hb5.trans ((z6.below (by omega)).mono (by omega))
  replace R_0 := (z6.cell (p := ⟨w.heap.size, 0, none⟩) (by simp only []; omega) (by simp only []; omega)).trans R_0
  replace R_1 := (z6.cell (p := ⟨w.heap.size, 1, none⟩) (by simp only []; omega) (by simp only []; omega)).trans R_1
  replace R_2 := (z6.cell (p := ⟨w.heap.size, 2, none⟩) (by simp only []; omega) (by simp only []; omega)).trans R_2
  replace R_f0 := (World.frozen?_of_block (a := ⟨w.heap.size, 0, none⟩) (z6.block _ (by simp only []; omega) (by simp only []; omega))).trans R_f0
  replace R_f1 := (World.frozen?_of_block (a := ⟨w.heap.size, 1, none⟩) (z6.block _ (by simp only []; omega) (by simp only []; omega))).trans R_f1
  replace R_f2 := (World.frozen?_of_block (a := ⟨w.heap.size, 2, none⟩) (z6.block _ (by simp only []; omega) (by simp only []; omega))).trans R_f2
  rw [← hlo4] at ho
  obtain ⟨hi5, hhi5⟩ : ∃ q, q = w6.heap.size := ⟨_, rfl⟩
  rw [← hhi5] at ho
  have hlh : cb + 1 ≤ lo4 := by omega
  have hlh2 : lo4 ≤ hi5 := by omega
  have HRR := Lib.hid (fun r hr => (hrr r hr).1 : ∀ r ∈ rows, r.length = 1 + K)
  clear hrr
  obtain ⟨w8, hw8⟩ : ∃ W, W = w6.alloc (.cells #[.string (ByteArray.mk #[114]), .int .i64 (1 + (K : Int)), .slice b n c] 34) := ⟨_, rfl⟩
  have z8 : Below w6.heap.size w6 w8 := by rw [hw8]; exact (Below.refl _ _).alloc (Nat.le_refl _) _
  have s8 : w8.heap.size = w6.heap.size + 1 := by rw [hw8]; simp
  have hb8 := on hb7 z8
  have old8_R_0 := R_0
  have old8_R_1 := R_1
  have old8_R_2 := R_2
  replace R_0 := (z8.cell (p := ⟨w.heap.size, 0, none⟩) (by simp only []; omega)).trans R_0
  replace R_1 := (z8.cell (p := ⟨w.heap.size, 1, none⟩) (by simp only []; omega)).trans R_1
  replace R_2 := (z8.cell (p := ⟨w.heap.size, 2, none⟩) (by simp only []; omega)).trans R_2
  replace R_f0 := (z8.frozen (p := ⟨w.heap.size, 0, none⟩) (by simp only []; omega)).trans R_f0
  replace R_f1 := (z8.frozen (p := ⟨w.heap.size, 1, none⟩) (by simp only []; omega)).trans R_f1
  replace R_f2 := (z8.frozen (p := ⟨w.heap.size, 2, none⟩) (by simp only []; omega)).trans R_f2
  replace HC := HC.below' z8 (by omega)
  replace ho := ho.below z8 (by omega)
  have X_0 : w8.cell? ⟨w6.heap.size, 0, none⟩ = some (.string (ByteArray.mk #[114])) := by rw [hw8]; exact box_cell (Below.refl _ _) rfl
  have X_1 : w8.cell? ⟨w6.heap.size, 1, none⟩ = some (.int .i64 (1 + (K : Int))) := by rw [hw8]; exact box_cell (Below.refl _ _) rfl
  have X_2 : w8.cell? ⟨w6.heap.size, 2, none⟩ = some (.slice b n c) := by rw [hw8]; exact box_cell (Below.refl _ _) rfl
  have X_f0 : w8.frozen? ⟨w6.heap.size, 0, none⟩ = false := by rw [hw8]; exact box_frozen (Below.refl _ _)
  have X_f1 : w8.frozen? ⟨w6.heap.size, 1, none⟩ = false := by rw [hw8]; exact box_frozen (Below.refl _ _)
  have X_f2 : w8.frozen? ⟨w6.heap.size, 2, none⟩ = false := by rw [hw8]; exact box_frozen (Below.refl _ _)
  have raw8_R_0 := R_0
  have raw8_R_1 := R_1
  have raw8_R_2 := R_2
  have raw8_X_0 := X_0
  have raw8_X_1 := X_1
  have raw8_X_2 := X_2
  rw [hw8] at raw8_R_0 raw8_R_1 raw8_R_2 raw8_X_0 raw8_X_1 raw8_X_2
  go_wp2_with fail
  rw [← hw8]
  clear hw8
  clear old8_R_0 old8_R_1 old8_R_2 raw8_R_0 raw8_R_1 raw8_R_2 raw8_X_0 raw8_X_1 raw8_X_2
  have HC_o := HC
  clear HC
  refine (l1Once_any _ cb ba bn bc 12 (by omega) HC_o).mono ?_
  rintro e w9 ⟨t, rfl, HC, z9⟩
  clear HC_o
  have s10 := Nat.le_of_eq z9.size
  have s10' := Nat.le_of_eq z9.size.symm
  replace z9 := z9.turn
  have hb10 := hb8.trans ((z9.below (by omega)).mono (by omega))
  replace R_0 := (z9.cell (p := ⟨w.heap.size, 0, none⟩) (by simp only []; omega) (by simp only []; omega)).trans R_0
  replace R_1 := (z9.cell (p := ⟨w.heap.size, 1, none⟩) (by simp only []; omega) (by simp only []; omega)).trans R_1
  replace R_2 := (z9.cell (p := ⟨w.heap.size, 2, none⟩) (by simp only []; omega) (by simp only []; omega)).trans R_2
  replace R_f0 := (World.frozen?_of_block (a := ⟨w.heap.size, 0, none⟩) (z9.block _ (by simp only []; omega) (by simp only []; omega))).trans R_f0
  replace R_f1 := (World.frozen?_of_block (a := ⟨w.heap.size, 1, none⟩) (z9.block _ (by simp only []; omega) (by simp only []; omega))).trans R_f1
  replace R_f2 := (World.frozen?_of_block (a := ⟨w.heap.size, 2, none⟩) (z9.block _ (by simp only []; omega) (by simp only []; omega))).trans R_f2
  replace ho := ho.turn z9 (by omega)
  replace X_0 := (z9.cell (p := ⟨w6.heap.size, 0, none⟩) (by simp only []; omega) (by simp only []; omega)).trans X_0
  replace X_1 := (z9.cell (p := ⟨w6.heap.size, 1, none⟩) (by simp only []; omega) (by simp only []; omega)).trans X_1
  replace X_2 := (z9.cell (p := ⟨w6.heap.size, 2, none⟩) (by simp only []; omega) (by simp only []; omega)).trans X_2
  replace X_f0 := (World.frozen?_of_block (a := ⟨w6.heap.size, 0, none⟩) (z9.block _ (by simp only []; omega) (by simp only []; omega))).trans X_f0
  replace X_f1 := (World.frozen?_of_block (a := ⟨w6.heap.size, 1, none⟩) (z9.block _ (by simp only []; omega) (by simp only []; omega))).trans X_f1
  replace X_f2 := (World.frozen?_of_block (a := ⟨w6.heap.size, 2, none⟩) (z9.block _ (by simp only []; omega) (by simp only []; omega))).trans X_f2
  cases t with
  | false =>
    have hoT : Own oT lo4 hi5 w9 [.string (ByteArray.mk #[114]), .int .i64 (1 + (K : Int)), .slice b n c] (ByteArray.mk #[114], 1 + (K : Int), rows) := oT_mk (x := (ByteArray.mk #[114], 1 + (K : Int), rows)) (show (ByteArray.mk #[114]).size ≤ 9223372036854775807 by decide) (show I64 (1 + (K : Int)) by unfold I64; omega) ho (by omega) (by omega)
    have HDT : Hid (DrawnT lo4 hi5 w9 [.string (ByteArray.mk #[114]), .int .i64 (1 + (K : Int)), .slice b n c] (ByteArray.mk #[114], 1 + (K : Int), rows)) := Lib.hid ⟨hoT, (show (ByteArray.mk #[114]).size ≤ 5 by decide), (by simp only []; omega), (by simp only []; omega), fun r hr => by have := HRR.out r hr; omega⟩
    clear hoT HRR
    clear ho
    go_wp2_with fail
    refine wp_region_noPanic ?_
    refine wp_region_held_drew (S := (fun W => W.cell? ⟨w6.heap.size, 0, none⟩ = some (.string (ByteArray.mk #[114])) ∧ W.cell? ⟨w6.heap.size, 1, none⟩ = some (.int .i64 (1 + (K : Int))) ∧ W.cell? ⟨w6.heap.size, 2, none⟩ = some (.slice b n c))) (by kernel_rfl) ?hS11 (fun hHeld => ?_)
    case hS11 => exact ⟨X_0, X_1, X_2⟩
    refine wpAnyH_take (i := 0) (v := ?v0_12) rfl (by kernel_rfl) (by kernel_rfl) (by kernel_rfl) (fun _ _ _ h => h) (Or.inl ⟨by rfl, ?hy0_12⟩) (by assumption) ?rest0_12
    case hy0_12 => intro w hSw; (try dsimp only at hSw); go_simp; (try with_reducible rfl)
    try simp only [Act.put, List.getElem_toArray, List.getElem_cons_succ, List.getElem_cons_zero, List.setIfInBounds_toArray, List.set_cons_zero, List.set_cons_succ]
    refine wpAnyH_take (i := 1) (v := ?v1_13) rfl (by kernel_rfl) (by kernel_rfl) (by kernel_rfl) (fun _ _ _ h => h) (Or.inl ⟨by rfl, ?hy1_13⟩) (by assumption) ?rest1_13
    case hy1_13 => intro w hSw; (try dsimp only at hSw); go_simp; (try with_reducible rfl)
    try simp only [Act.put, List.getElem_toArray, List.getElem_cons_succ, List.getElem_cons_zero, List.setIfInBounds_toArray, List.set_cons_zero, List.set_cons_succ]
    refine wpAnyH_take (i := 2) (v := ?v2_14) rfl (by kernel_rfl) (by kernel_rfl) (by kernel_rfl) (fun _ _ _ h => h) (Or.inl ⟨by rfl, ?hy2_14⟩) (by assumption) ?rest2_14
    case hy2_14 => intro w hSw; (try dsimp only at hSw); go_simp; (try with_reducible rfl)
    try simp only [Act.put, List.getElem_toArray, List.getElem_cons_succ, List.getElem_cons_zero, List.setIfInBounds_toArray, List.set_cons_zero, List.set_cons_succ]
    refine wpAnyH_take (i := 3) (v := ?v3_15) rfl (by kernel_rfl) (by kernel_rfl) (by kernel_rfl) (fun _ _ _ h => h) (Or.inl ⟨by rfl, ?hy3_15⟩) (by assumption) ?rest3_15
    case hy3_15 => intro w hSw; (try dsimp only at hSw); go_simp; (try with_reducible rfl)
    try simp only [Act.put, List.getElem_toArray, List.getElem_cons_succ, List.getElem_cons_zero, List.setIfInBounds_toArray, List.set_cons_zero, List.set_cons_succ]
    refine wpAnyH_take (i := 4) (v := ?v4_16) rfl (by kernel_rfl) (by kernel_rfl) (by kernel_rfl) (fun _ _ _ h => h) (Or.inl ⟨by rfl, ?hy4_16⟩) (by assumption) ?rest4_16
    case hy4_16 => intro w hSw; (try dsimp only at hSw); go_simp; (try with_reducible rfl)
    try simp only [Act.put, List.getElem_toArray, List.getElem_cons_succ, List.getElem_cons_zero, List.setIfInBounds_toArray, List.set_cons_zero, List.set_cons_succ]
    refine wpAnyH_take (i := 5) (v := ?v5_17) rfl (by kernel_rfl) (by kernel_rfl) (by kernel_rfl) (fun _ _ _ h => h) (Or.inl ⟨by rfl, ?hy5_17⟩) (by assumption) ?rest5_17
    case hy5_17 => intro w hSw; (try dsimp only at hSw); go_simp; (try with_reducible rfl)
    try simp only [Act.put, List.getElem_toArray, List.getElem_cons_succ, List.getElem_cons_zero, List.setIfInBounds_toArray, List.set_cons_zero, List.set_cons_succ]
    refine wpAnyH_ready (rs := [6]) (by kernel_rfl) (by simp) ?_
    refine AllReadyH.cons rfl (fun K9 hK9 => ?_) AllReadyH.nil
    go_simp
    obtain ⟨M3, hM3⟩ : ∃ q, (if (1 + (K : Int)) < 3 then (1 + (K : Int)) else 3) = q := ⟨_, rfl⟩
    have hM4 : M3 ≤ 3 := by rw [← hM3]; split <;> omega
    rw [hM3]
    clear hM3
    obtain ⟨N, hN, hN3⟩ : ∃ N : Nat, (if 0 < M3 then M3 else 0) = (N : Int) ∧ N ≤ 3 := ⟨(if 0 < M3 then M3 else 0).toNat, by split <;> omega, by split <;> omega⟩
    rw [hN]
    clear hN hM4
    have hdr : Below w9.heap.size w9 w9.drew := (Below.refl _ _).drew
    refine (l10Set_any _ cb ba bn bc N (by omega) (HC.below' hdr (by omega)) (show cb < w9.heap.size by omega)).mono ?_
    rintro e wA ⟨ub, un, uc, xs, rfl, oS, hxl, HC2, tA⟩
    replace tA : Turn cb (cb + 1) w9 wA := (turn_below hdr (Nat.le_refl _)).trans tA
    replace oS : Own oI w9.heap.size wA.heap.size wA [.slice ub un uc] xs := oS
    have sA := tA.size
    have hbA : Below w.heap.size w wA := hb10.trans ((tA.below (by omega)).mono (by omega))
    have HDA := Lib.hid (HDT.out.turn tA (by omega))
    replace X_0 := (tA.cell (p := ⟨w6.heap.size, 0, none⟩) (by simp only []; omega) (by simp only []; omega)).trans X_0
    replace X_1 := (tA.cell (p := ⟨w6.heap.size, 1, none⟩) (by simp only []; omega) (by simp only []; omega)).trans X_1
    replace X_2 := (tA.cell (p := ⟨w6.heap.size, 2, none⟩) (by simp only []; omega) (by simp only []; omega)).trans X_2
    have B_0 := (tA.cell (p := ⟨w.heap.size, 0, none⟩) (by simp only []; omega) (by simp only []; omega)).trans R_0
    have B_1 := (tA.cell (p := ⟨w.heap.size, 1, none⟩) (by simp only []; omega) (by simp only []; omega)).trans R_1
    have B_2 := (tA.cell (p := ⟨w.heap.size, 2, none⟩) (by simp only []; omega) (by simp only []; omega)).trans R_2
    have B_f0 := (tA.frozen (p := ⟨w.heap.size, 0, none⟩) (by simp only []; omega) (by simp only []; omega)).trans R_f0
    have B_f1 := (tA.frozen (p := ⟨w.heap.size, 1, none⟩) (by simp only []; omega) (by simp only []; omega)).trans R_f1
    have B_f2 := (tA.frozen (p := ⟨w.heap.size, 2, none⟩) (by simp only []; omega) (by simp only []; omega)).trans R_f2
    have HOS := Lib.hid oS
    clear R_0 R_1 R_2 R_f0 R_f1 R_f2 oS HC2
    refine hK9.out _ _ ?_ (fun hHeld => ?_)
    · exact ⟨X_0, X_1, X_2⟩
    clear hK9 K9
    try simp only [Act.put, List.getElem_toArray, List.getElem_cons_succ, List.getElem_cons_zero, List.setIfInBounds_toArray, List.set_cons_zero, List.set_cons_succ]
    refine wpAnyH_ready (rs := [7]) (by kernel_rfl) (by simp) ?_
    refine AllReadyH.cons rfl (fun K9 hK9 => ?_) AllReadyH.nil
    go_simp
    obtain ⟨wF, hwF⟩ : ∃ W, W = ((wA.setCell ⟨w.heap.size, 0, none⟩ (.string (ByteArray.mk #[114]))).setCell ⟨w.heap.size, 1, none⟩ (.int .i64 (1 + (K : Int)))).setCell ⟨w.heap.size, 2, none⟩ (.slice b n c) := ⟨_, rfl⟩
    rw [← hwF]
    have zF : Below w.heap.size wA wF := by
      rw [hwF]
      repeat (refine Below.setCell ?_ (by simp only []; omega) _)
      exact Below.refl _ _
    have sF : wF.heap.size = wA.heap.size := by rw [hwF]; simp [World.setCell]
    have F_0 : wF.cell? ⟨w.heap.size, 0, none⟩ = some (.string (ByteArray.mk #[114])) := by rw [hwF]; simp [go_sem, B_0, B_1, B_2]
    have F_1 : wF.cell? ⟨w.heap.size, 1, none⟩ = some (.int .i64 (1 + (K : Int))) := by rw [hwF]; simp [go_sem, B_0, B_1, B_2]
    have F_2 : wF.cell? ⟨w.heap.size, 2, none⟩ = some (.slice b n c) := by rw [hwF]; simp [go_sem, B_0, B_1, B_2]
    have F_f0 : wF.frozen? ⟨w.heap.size, 0, none⟩ = false := by rw [hwF]; simp [go_sem, B_f0, B_f1, B_f2]
    have F_f1 : wF.frozen? ⟨w.heap.size, 1, none⟩ = false := by rw [hwF]; simp [go_sem, B_f0, B_f1, B_f2]
    have F_f2 : wF.frozen? ⟨w.heap.size, 2, none⟩ = false := by rw [hwF]; simp [go_sem, B_f0, B_f1, B_f2]
    have G_0 : wF.cell? ⟨w6.heap.size, 0, none⟩ = some (.string (ByteArray.mk #[114])) := by
      rw [hwF]
      refine (World.cell?_of_block (a := ⟨w6.heap.size, 0, none⟩) ?_).trans X_0
      rw [Below.heap_setCell _ _ _ _ (by simp only []; omega), Below.heap_setCell _ _ _ _ (by simp only []; omega), Below.heap_setCell _ _ _ _ (by simp only []; omega)]
    have G_1 : wF.cell? ⟨w6.heap.size, 1, none⟩ = some (.int .i64 (1 + (K : Int))) := by
      rw [hwF]
      refine (World.cell?_of_block (a := ⟨w6.heap.size, 1, none⟩) ?_).trans X_1
      rw [Below.heap_setCell _ _ _ _ (by simp only []; omega), Below.heap_setCell _ _ _ _ (by simp only []; omega), Below.heap_setCell _ _ _ _ (by simp only []; omega)]
    have G_2 : wF.cell? ⟨w6.heap.size, 2, none⟩ = some (.slice b n c) := by
      rw [hwF]
      refine (World.cell?_of_block (a := ⟨w6.heap.size, 2, none⟩) ?_).trans X_2
      rw [Below.heap_setCell _ _ _ _ (by simp only []; omega), Below.heap_setCell _ _ _ _ (by simp only []; omega), Below.heap_setCell _ _ _ _ (by simp only []; omega)]
    have HDF := Lib.hid (show DrawnT lo4 hi5 wF [.string (ByteArray.mk #[114]), .int .i64 (1 + (K : Int)), .slice b n c] ((ByteArray.mk #[114]), (1 + (K : Int)), rows) by
      rw [hwF]
      repeat (refine DrawnT.off ?_ rfl (by simp only []; omega))
      exact HDA.out)
    have HOF := Lib.hid (show Own oI w9.heap.size wA.heap.size wF [.slice ub un uc] xs by
      rw [hwF]
      repeat (refine own_off ?_ rfl (by simp only []; omega))
      exact HOS.out)
    clear hwF B_0 B_1 B_2 B_f0 B_f1 B_f2 HDA HOS
    refine hK9.out _ _ ?_ (fun hHeld => ?_)
    · exact ⟨G_0, G_1, G_2⟩
    clear hK9 K9
    try simp only [Act.put, List.getElem_toArray, List.getElem_cons_succ, List.getElem_cons_zero, List.setIfInBounds_toArray, List.set_cons_zero, List.set_cons_succ]
    refine wpAnyH_take (i := 8) (v := ?v8_18) rfl (by kernel_rfl) (by kernel_rfl) (by kernel_rfl) (fun _ _ _ h => h) (Or.inl ⟨by rfl, ?hy8_18⟩) (by assumption) ?rest8_18
    case hy8_18 => intro w hSw; (try dsimp only at hSw); go_simp; (try with_reducible rfl)
    try simp only [Act.put, List.getElem_toArray, List.getElem_cons_succ, List.getElem_cons_zero, List.setIfInBounds_toArray, List.set_cons_zero, List.set_cons_succ]
    refine wpAnyH_done (by kernel_rfl) ?_ _
    refine NoPanic.normal ?_
    go_wp2_with fail
    refine bodyPost_ret (v := .tuple #[.agg #[.string (ByteArray.mk #[114]), .int .i64 (1 + (K : Int)), .slice b n c], .slice ub un uc]) (by simp [results, Try.results53, go_sem, F_0, F_1, F_2, F_f0, F_f1, F_f2]) rfl ⟨((ByteArray.mk #[114]), (1 + (K : Int)), rows), xs, b, n, c, ub, un, uc, rfl, HDF.out.mono (by omega) (by omega), HOF.out.mono (by omega) (by omega), by omega, hbA.trans zF⟩
  | true =>
    clear ho
    clear HRR
    clear hlo4 hhi5 hlh hlh2 lo4 hi5 hrl
    go_wp2_with fail
    obtain ⟨lo4, hlo4⟩ : ∃ q, q = w9.heap.size := ⟨_, rfl⟩
    have HC_o := HC
    clear HC
    refine (l4Any_any _ cb ba bn bc HC_o (by omega)).mono ?_
    rintro e w19 ⟨nm, A, b2, n2, c2, rows2, rfl, hns, hA1, hA2, ho2, hrl2, hrr2, HC, z19⟩
    clear HC_o
    have s20 := z19.size
    have hb20 := hb10.trans ((z19.below (by omega)).mono (by omega))
    replace R_0 := (z19.cell (p := ⟨w.heap.size, 0, none⟩) (by simp only []; omega) (by simp only []; omega)).trans R_0
    replace R_1 := (z19.cell (p := ⟨w.heap.size, 1, none⟩) (by simp only []; omega) (by simp only []; omega)).trans R_1
    replace R_2 := (z19.cell (p := ⟨w.heap.size, 2, none⟩) (by simp only []; omega) (by simp only []; omega)).trans R_2
    replace R_f0 := (World.frozen?_of_block (a := ⟨w.heap.size, 0, none⟩) (z19.block _ (by simp only []; omega) (by simp only []; omega))).trans R_f0
    replace R_f1 := (World.frozen?_of_block (a := ⟨w.heap.size, 1, none⟩) (z19.block _ (by simp only []; omega) (by simp only []; omega))).trans R_f1
    replace R_f2 := (World.frozen?_of_block (a := ⟨w.heap.size, 2, none⟩) (z19.block _ (by simp only []; omega) (by simp only []; omega))).trans R_f2
    replace X_0 := (z19.cell (p := ⟨w6.heap.size, 0, none⟩) (by simp only []; omega) (by simp only []; omega)).trans X_0
    replace X_1 := (z19.cell (p := ⟨w6.heap.size, 1, none⟩) (by simp only []; omega) (by simp only []; omega)).trans X_1
    replace X_2 := (z19.cell (p := ⟨w6.heap.size, 2, none⟩) (by simp only []; omega) (by simp only []; omega)).trans X_2
    replace X_f0 := (World.frozen?_of_block (a := ⟨w6.heap.size, 0, none⟩) (z19.block _ (by simp only []; omega) (by simp only []; omega))).trans X_f0
    replace X_f1 := (World.frozen?_of_block (a := ⟨w6.heap.size, 1, none⟩) (z19.block _ (by simp only []; omega) (by simp only []; omega))).trans X_f1
    replace X_f2 := (World.frozen?_of_block (a := ⟨w6.heap.size, 2, none⟩) (z19.block _ (by simp only []; omega) (by simp only []; omega))).trans X_f2
    rw [← hlo4] at ho2
    obtain ⟨hi5, hhi5⟩ : ∃ q, q = w19.heap.size := ⟨_, rfl⟩
    rw [← hhi5] at ho2
    have hlh : cb + 1 ≤ lo4 := by omega
    have hlh2 : lo4 ≤ hi5 := by omega
    have hoT : Own oT lo4 hi5 w19 [.string nm, .int .i64 A, .slice b2 n2 c2] (nm, A, rows2) := oT_mk (x := (nm, A, rows2)) (show nm.size ≤ _ by omega) (show I64 A by unfold I64; omega) ho2 (by omega) (by omega)
    have HDT : Hid (DrawnT lo4 hi5 w19 [.string nm, .int .i64 A, .slice b2 n2 c2] (nm, A, rows2)) := Lib.hid ⟨hoT, hns, ⟨hA1, hA2⟩, hrl2, fun r hr => (hrr2 r hr).1⟩
    clear hoT ho2 hrr2
    go_wp2_with fail
    obtain ⟨wS, hwS⟩ : ∃ W, W = ((w19.setCell ⟨w6.heap.size, 0, none⟩ (.string nm)).setCell ⟨w6.heap.size, 1, none⟩ (.int .i64 A)).setCell ⟨w6.heap.size, 2, none⟩ (.slice b2 n2 c2) := ⟨_, rfl⟩
    rw [← hwS]
    have zS : Below cb.succ w19 wS := by
      rw [hwS]
      repeat (refine Below.setCell ?_ (by simp only []; omega) _)
      exact Below.refl _ _
    have sS : wS.heap.size = w19.heap.size := by rw [hwS]; simp [World.setCell]
    have Y_0 : wS.cell? ⟨w6.heap.size, 0, none⟩ = some (.string nm) := by rw [hwS]; simp [go_sem, X_0, X_1, X_2]
    have Y_1 : wS.cell? ⟨w6.heap.size, 1, none⟩ = some (.int .i64 A) := by rw [hwS]; simp [go_sem, X_0, X_1, X_2]
    have Y_2 : wS.cell? ⟨w6.heap.size, 2, none⟩ = some (.slice b2 n2 c2) := by rw [hwS]; simp [go_sem, X_0, X_1, X_2]
    have HDS : Hid (DrawnT lo4 hi5 wS [.string nm, .int .i64 A, .slice b2 n2 c2] (nm, A, rows2)) := Lib.hid (by
      rw [hwS]
      repeat (refine DrawnT.off ?_ rfl (by simp only []; omega))
      exact HDT.out)
    have Q_0 := (zS.cell (p := ⟨w.heap.size, 0, none⟩) (by simp only []; omega)).trans R_0
    have Q_1 := (zS.cell (p := ⟨w.heap.size, 1, none⟩) (by simp only []; omega)).trans R_1
    have Q_2 := (zS.cell (p := ⟨w.heap.size, 2, none⟩) (by simp only []; omega)).trans R_2
    have Q_f0 := (zS.frozen (p := ⟨w.heap.size, 0, none⟩) (by simp only []; omega)).trans R_f0
    have Q_f1 := (zS.frozen (p := ⟨w.heap.size, 1, none⟩) (by simp only []; omega)).trans R_f1
    have Q_f2 := (zS.frozen (p := ⟨w.heap.size, 2, none⟩) (by simp only []; omega)).trans R_f2
    have HCS := HC.below' zS (by omega)
    have hbS : Below w.heap.size w wS := hb20.trans (zS.mono (by omega))
    clear hwS HDT X_0 X_1 X_2 R_0 R_1 R_2 R_f0 R_f1 R_f2 HC zS
    have sS1 := Nat.le_of_eq sS
    have sS2 := Nat.le_of_eq sS.symm
    clear sS
    refine wp_region_noPanic ?_
    refine wp_region_held_drew (S := (fun W => W.cell? ⟨w6.heap.size, 0, none⟩ = some (.string nm) ∧ W.cell? ⟨w6.heap.size, 1, none⟩ = some (.int .i64 A) ∧ W.cell? ⟨w6.heap.size, 2, none⟩ = some (.slice b2 n2 c2))) (by kernel_rfl) ?hS21 (fun hHeld => ?_)
    case hS21 => exact ⟨Y_0, Y_1, Y_2⟩
    refine wpAnyH_take (i := 0) (v := ?v0_22) rfl (by kernel_rfl) (by kernel_rfl) (by kernel_rfl) (fun _ _ _ h => h) (Or.inl ⟨by rfl, ?hy0_22⟩) (by assumption) ?rest0_22
    case hy0_22 => intro w hSw; (try dsimp only at hSw); go_simp; (try with_reducible rfl)
    try simp only [Act.put, List.getElem_toArray, List.getElem_cons_succ, List.getElem_cons_zero, List.setIfInBounds_toArray, List.set_cons_zero, List.set_cons_succ]
    refine wpAnyH_take (i := 1) (v := ?v1_23) rfl (by kernel_rfl) (by kernel_rfl) (by kernel_rfl) (fun _ _ _ h => h) (Or.inl ⟨by rfl, ?hy1_23⟩) (by assumption) ?rest1_23
    case hy1_23 => intro w hSw; (try dsimp only at hSw); go_simp; (try with_reducible rfl)
    try simp only [Act.put, List.getElem_toArray, List.getElem_cons_succ, List.getElem_cons_zero, List.setIfInBounds_toArray, List.set_cons_zero, List.set_cons_succ]
    refine wpAnyH_take (i := 2) (v := ?v2_24) rfl (by kernel_rfl) (by kernel_rfl) (by kernel_rfl) (fun _ _ _ h => h) (Or.inl ⟨by rfl, ?hy2_24⟩) (by assumption) ?rest2_24
    case hy2_24 => intro w hSw; (try dsimp only at hSw); go_simp; (try with_reducible rfl)
    try simp only [Act.put, List.getElem_toArray, List.getElem_cons_succ, List.getElem_cons_zero, List.setIfInBounds_toArray, List.set_cons_zero, List.set_cons_succ]
    refine wpAnyH_take (i := 3) (v := ?v3_25) rfl (by kernel_rfl) (by kernel_rfl) (by kernel_rfl) (fun _ _ _ h => h) (Or.inl ⟨by rfl, ?hy3_25⟩) (by assumption) ?rest3_25
    case hy3_25 => intro w hSw; (try dsimp only at hSw); go_simp; (try with_reducible rfl)
    try simp only [Act.put, List.getElem_toArray, List.getElem_cons_succ, List.getElem_cons_zero, List.setIfInBounds_toArray, List.set_cons_zero, List.set_cons_succ]
    refine wpAnyH_take (i := 4) (v := ?v4_26) rfl (by kernel_rfl) (by kernel_rfl) (by kernel_rfl) (fun _ _ _ h => h) (Or.inl ⟨by rfl, ?hy4_26⟩) (by assumption) ?rest4_26
    case hy4_26 => intro w hSw; (try dsimp only at hSw); go_simp; (try with_reducible rfl)
    try simp only [Act.put, List.getElem_toArray, List.getElem_cons_succ, List.getElem_cons_zero, List.setIfInBounds_toArray, List.set_cons_zero, List.set_cons_succ]
    refine wpAnyH_take (i := 5) (v := ?v5_27) rfl (by kernel_rfl) (by kernel_rfl) (by kernel_rfl) (fun _ _ _ h => h) (Or.inl ⟨by rfl, ?hy5_27⟩) (by assumption) ?rest5_27
    case hy5_27 => intro w hSw; (try dsimp only at hSw); go_simp; (try with_reducible rfl)
    try simp only [Act.put, List.getElem_toArray, List.getElem_cons_succ, List.getElem_cons_zero, List.setIfInBounds_toArray, List.set_cons_zero, List.set_cons_succ]
    refine wpAnyH_ready (rs := [6]) (by kernel_rfl) (by simp) ?_
    refine AllReadyH.cons rfl (fun K9 hK9 => ?_) AllReadyH.nil
    go_simp
    obtain ⟨M3, hM3⟩ : ∃ q, (if A < 3 then A else 3) = q := ⟨_, rfl⟩
    have hM4 : M3 ≤ 3 := by rw [← hM3]; split <;> omega
    rw [hM3]
    clear hM3
    obtain ⟨N, hN, hN3⟩ : ∃ N : Nat, (if 0 < M3 then M3 else 0) = (N : Int) ∧ N ≤ 3 := ⟨(if 0 < M3 then M3 else 0).toNat, by split <;> omega, by split <;> omega⟩
    rw [hN]
    clear hN hM4
    have hdr : Below wS.heap.size wS wS.drew := (Below.refl _ _).drew
    refine (l10Set_any _ cb ba bn bc N (by omega) (HCS.below' hdr (by omega)) (show cb < wS.heap.size by omega)).mono ?_
    rintro e wA ⟨ub, un, uc, xs, rfl, oS, hxl, HC2, tA⟩
    replace tA : Turn cb (cb + 1) wS wA := (turn_below hdr (Nat.le_refl _)).trans tA
    replace oS : Own oI wS.heap.size wA.heap.size wA [.slice ub un uc] xs := oS
    have sA := tA.size
    have hbA : Below w.heap.size w wA := hbS.trans ((tA.below (by omega)).mono (by omega))
    have HDA := Lib.hid (HDS.out.turn tA (by omega))
    replace Y_0 := (tA.cell (p := ⟨w6.heap.size, 0, none⟩) (by simp only []; omega) (by simp only []; omega)).trans Y_0
    replace Y_1 := (tA.cell (p := ⟨w6.heap.size, 1, none⟩) (by simp only []; omega) (by simp only []; omega)).trans Y_1
    replace Y_2 := (tA.cell (p := ⟨w6.heap.size, 2, none⟩) (by simp only []; omega) (by simp only []; omega)).trans Y_2
    have B_0 := (tA.cell (p := ⟨w.heap.size, 0, none⟩) (by simp only []; omega) (by simp only []; omega)).trans Q_0
    have B_1 := (tA.cell (p := ⟨w.heap.size, 1, none⟩) (by simp only []; omega) (by simp only []; omega)).trans Q_1
    have B_2 := (tA.cell (p := ⟨w.heap.size, 2, none⟩) (by simp only []; omega) (by simp only []; omega)).trans Q_2
    have B_f0 := (tA.frozen (p := ⟨w.heap.size, 0, none⟩) (by simp only []; omega) (by simp only []; omega)).trans Q_f0
    have B_f1 := (tA.frozen (p := ⟨w.heap.size, 1, none⟩) (by simp only []; omega) (by simp only []; omega)).trans Q_f1
    have B_f2 := (tA.frozen (p := ⟨w.heap.size, 2, none⟩) (by simp only []; omega) (by simp only []; omega)).trans Q_f2
    have HOS := Lib.hid oS
    clear Q_0 Q_1 Q_2 Q_f0 Q_f1 Q_f2 oS HC2
    refine hK9.out _ _ ?_ (fun hHeld => ?_)
    · exact ⟨Y_0, Y_1, Y_2⟩
    clear hK9 K9
    try simp only [Act.put, List.getElem_toArray, List.getElem_cons_succ, List.getElem_cons_zero, List.setIfInBounds_toArray, List.set_cons_zero, List.set_cons_succ]
    refine wpAnyH_ready (rs := [7]) (by kernel_rfl) (by simp) ?_
    refine AllReadyH.cons rfl (fun K9 hK9 => ?_) AllReadyH.nil
    go_simp
    obtain ⟨wF, hwF⟩ : ∃ W, W = ((wA.setCell ⟨w.heap.size, 0, none⟩ (.string nm)).setCell ⟨w.heap.size, 1, none⟩ (.int .i64 A)).setCell ⟨w.heap.size, 2, none⟩ (.slice b2 n2 c2) := ⟨_, rfl⟩
    rw [← hwF]
    have zF : Below w.heap.size wA wF := by
      rw [hwF]
      repeat (refine Below.setCell ?_ (by simp only []; omega) _)
      exact Below.refl _ _
    have sF : wF.heap.size = wA.heap.size := by rw [hwF]; simp [World.setCell]
    have F_0 : wF.cell? ⟨w.heap.size, 0, none⟩ = some (.string nm) := by rw [hwF]; simp [go_sem, B_0, B_1, B_2]
    have F_1 : wF.cell? ⟨w.heap.size, 1, none⟩ = some (.int .i64 A) := by rw [hwF]; simp [go_sem, B_0, B_1, B_2]
    have F_2 : wF.cell? ⟨w.heap.size, 2, none⟩ = some (.slice b2 n2 c2) := by rw [hwF]; simp [go_sem, B_0, B_1, B_2]
    have F_f0 : wF.frozen? ⟨w.heap.size, 0, none⟩ = false := by rw [hwF]; simp [go_sem, B_f0, B_f1, B_f2]
    have F_f1 : wF.frozen? ⟨w.heap.size, 1, none⟩ = false := by rw [hwF]; simp [go_sem, B_f0, B_f1, B_f2]
    have F_f2 : wF.frozen? ⟨w.heap.size, 2, none⟩ = false := by rw [hwF]; simp [go_sem, B_f0, B_f1, B_f2]
    have G_0 : wF.cell? ⟨w6.heap.size, 0, none⟩ = some (.string nm) := by
      rw [hwF]
      refine (World.cell?_of_block (a := ⟨w6.heap.size, 0, none⟩) ?_).trans Y_0
      rw [Below.heap_setCell _ _ _ _ (by simp only []; omega), Below.heap_setCell _ _ _ _ (by simp only []; omega), Below.heap_setCell _ _ _ _ (by simp only []; omega)]
    have G_1 : wF.cell? ⟨w6.heap.size, 1, none⟩ = some (.int .i64 A) := by
      rw [hwF]
      refine (World.cell?_of_block (a := ⟨w6.heap.size, 1, none⟩) ?_).trans Y_1
      rw [Below.heap_setCell _ _ _ _ (by simp only []; omega), Below.heap_setCell _ _ _ _ (by simp only []; omega), Below.heap_setCell _ _ _ _ (by simp only []; omega)]
    have G_2 : wF.cell? ⟨w6.heap.size, 2, none⟩ = some (.slice b2 n2 c2) := by
      rw [hwF]
      refine (World.cell?_of_block (a := ⟨w6.heap.size, 2, none⟩) ?_).trans Y_2
      rw [Below.heap_setCell _ _ _ _ (by simp only []; omega), Below.heap_setCell _ _ _ _ (by simp only []; omega), Below.heap_setCell _ _ _ _ (by simp only []; omega)]
    have HDF := Lib.hid (show DrawnT lo4 hi5 wF [.string nm, .int .i64 A, .slice b2 n2 c2] (nm, A, rows2) by
      rw [hwF]
      repeat (refine DrawnT.off ?_ rfl (by simp only []; omega))
      exact HDA.out)
    have HOF := Lib.hid (show Own oI wS.heap.size wA.heap.size wF [.slice ub un uc] xs by
      rw [hwF]
      repeat (refine own_off ?_ rfl (by simp only []; omega))
      exact HOS.out)
    clear hwF B_0 B_1 B_2 B_f0 B_f1 B_f2 HDA HOS
    refine hK9.out _ _ ?_ (fun hHeld => ?_)
    · exact ⟨G_0, G_1, G_2⟩
    clear hK9 K9
    try simp only [Act.put, List.getElem_toArray, List.getElem_cons_succ, List.getElem_cons_zero, List.setIfInBounds_toArray, List.set_cons_zero, List.set_cons_succ]
    refine wpAnyH_take (i := 8) (v := ?v8_28) rfl (by kernel_rfl) (by kernel_rfl) (by kernel_rfl) (fun _ _ _ h => h) (Or.inl ⟨by rfl, ?hy8_28⟩) (by assumption) ?rest8_28
    case hy8_28 => intro w hSw; (try dsimp only at hSw); go_simp; (try with_reducible rfl)
    try simp only [Act.put, List.getElem_toArray, List.getElem_cons_succ, List.getElem_cons_zero, List.setIfInBounds_toArray, List.set_cons_zero, List.set_cons_succ]
    refine wpAnyH_done (by kernel_rfl) ?_ _
    refine NoPanic.normal ?_
    go_wp2_with fail
    refine bodyPost_ret (v := .tuple #[.agg #[.string nm, .int .i64 A, .slice b2 n2 c2], .slice ub un uc]) (by simp [results, Try.results53, go_sem, F_0, F_1, F_2, F_f0, F_f1, F_f2]) rfl ⟨(nm, A, rows2), xs, b2, n2, c2, ub, un, uc, rfl, HDF.out.mono (by omega) (by omega), HOF.out.mono (by omega) (by omega), by omega, hbA.trans zF⟩

end Go.Proofs.Ytehcjdbljdpmbaa
