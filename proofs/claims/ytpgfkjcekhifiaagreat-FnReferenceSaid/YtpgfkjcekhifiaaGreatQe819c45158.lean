/- Texts joined for one claim: Draw8, For, Draw9, EvalM. -/
import Derived.Test.YtpgfkjcekhifiaaGreatQ53ae14c1bb
import Derived.Test.YtpgfkjcekhifiaaGreatQ94813783a4
import Derived.Test.YtpgfkjcekhifiaaGreatQ52736f1836
import Derived.Test.YtpgfkjcekhifiaaGreatQad766b37ad
import Derived.Test.YtpgfkjcekhifiaaGreatQ2023b2b8fc
import Derived.Deep.RegionHeld3

namespace Go.Proofs.YtpgfkjcekhifiaaGreat

open Go.RowKit

set_option linter.unusedVariables false

set_option linter.unusedSimpArgs false

set_option synthInstance.maxSize 2000

set_option synthInstance.maxHeartbeats 400000

theorem ints_litD (W : World) (xs : List Int) (hx : ∀ x ∈ xs, I64 x) (hl : xs.length ≤ 1000) : Ints (W.alloc (.cells (xs.map (fun x => Value.int .i64 x)).toArray 3)) (some ⟨W.heap.size, 0, none⟩) xs.length xs :=
  ⟨rfl, by omega, fun i hi => by
    refine ⟨W.heap.size, 0, rfl, ?_⟩
    rw [Nat.zero_add]
    have h := fresh_cells W (xs.map (fun x => Value.int .i64 x)) 3 i (.int .i64 (xs.getD i 0)) (by rw [List.getElem?_map, List.getD_eq_getElem?_getD, List.getElem?_eq_getElem hi]; rfl)
    rw [add_zero_addr] at h
    exact h, hx⟩

theorem i64_litsD {xs : List Int} (h : (xs.all fun x => decide (-9223372036854775808 ≤ x) && decide (x ≤ 9223372036854775807)) = true) : ∀ x ∈ xs, I64 x := fun x hx => by
  have := List.all_eq_true.1 h x hx
  simp only [Bool.and_eq_true, decide_eq_true_eq] at this
  exact this

theorem small_lits {xs : List Int} (h : (xs.all fun x => decide (0 ≤ x) && decide (x ≤ 100)) = true) {x : Int} (hx : x ∈ xs) : ∃ V : Nat, x = (V : Int) ∧ V ≤ 100 := by
  have := List.all_eq_true.1 h x hx
  simp only [Bool.and_eq_true, decide_eq_true_eq] at this
  exact ⟨x.toNat, by omega, by omega⟩

theorem oTl_some {lo hi : Nat} {w : World} {b : Option Addr} {n c : Nat} {xs : List DT} (h : Own oTl lo hi w [.slice b n c] xs) (hn : 0 < xs.length) : n = xs.length ∧ ∃ g, b = some ⟨g, 0, none⟩ := by
  obtain ⟨fp, ⟨v, css, fs, hv, rfl, h1, h2⟩, hn2, hb⟩ := h
  simp only [List.cons.injEq, and_true] at hv
  subst hv
  rcases h1.2 with ⟨h9, h0⟩ | ⟨g, cap, cur, hv', _, _, _, _, _, _⟩
  · omega
  · simp only [Value.slice.injEq] at hv'
    exact ⟨hv'.2.1, g, hv'.1⟩

def DbSt (w : World) (cb : Nat) (ba : Option Addr) (bn bc : Nat) (XB NB : Nat) (q : Nat) (wr : World) : Prop :=
  ∃ (b : Option Addr) (n c : Nat) (ts : List DT), ts.length = q ∧
    wr.cell? ⟨w.heap.size, 0, none⟩ = some (.slice none 0 0) ∧ wr.frozen? ⟨w.heap.size, 0, none⟩ = false ∧
    wr.cell? ⟨XB, 0, none⟩ = some (.slice b n c) ∧ wr.frozen? ⟨XB, 0, none⟩ = false ∧
    (wr.cell? ⟨NB, 0, none⟩ = some (.string (ByteArray.mk #[114])) ∧ wr.cell? ⟨NB, 1, none⟩ = some (.string (ByteArray.mk #[115])) ∧ wr.cell? ⟨NB, 2, none⟩ = some (.string (ByteArray.mk #[116])) ∧ wr.cell? ⟨NB, 3, none⟩ = some (.string (ByteArray.mk #[117])) ∧ wr.cell? ⟨NB, 4, none⟩ = some (.string (ByteArray.mk #[118]))) ∧
    Own oTl (NB + 1) wr.heap.size wr [.slice b n c] ts ∧ Cur wr cb ba bn bc ∧ Turn cb (cb + 1) w wr ∧ NB + 1 ≤ wr.heap.size

set_option maxRecDepth 100000 in
set_option maxHeartbeats 8000000 in
theorem l5Db_any (w : World) (cb : Nat) (ba : Option Addr) (bn bc : Nat) (HC : Cur w cb ba bn bc) (hcb : cb < w.heap.size) :
    Calls Tryz.prog 49 #[.pointer (some ⟨cb, 0, none⟩)] w fun e w' => ∃ (g n c : Nat) (ts : List DT), e = .returned (.agg #[.slice (some ⟨g, 0, none⟩) n c]) ∧ ts.length = 5 ∧ n = 5 ∧ Own oTl w.heap.size w'.heap.size w' [.slice (some ⟨g, 0, none⟩) n c] ts ∧ Cur w' cb ba bn bc ∧ Turn cb (cb + 1) w w' := by
  have ht0 : Turn cb (cb + 1) w w := (Kept.refl cb (cb + 1) w).turn
  go_enter Tryz.func49, Tryz.ntmps49
  obtain ⟨w1, hw1⟩ : ∃ W, W = w.alloc (.cells #[.slice none 0 0] 26) := ⟨_, rfl⟩
  have z1 : Below w.heap.size w w1 := by rw [hw1]; exact (Below.refl _ _).alloc (Nat.le_refl _) _
  have s1 : w1.heap.size = w.heap.size + 1 := by rw [hw1]; simp
  have hb1 := turn_on' ht0 (z1.mono (by omega))
  replace HC := HC.below' z1 (by omega)
  have R_0 : w1.cell? ⟨w.heap.size, 0, none⟩ = some (.slice none 0 0) := by rw [hw1]; exact box_cell (Below.refl _ _) rfl
  have R_f0 : w1.frozen? ⟨w.heap.size, 0, none⟩ = false := by rw [hw1]; exact box_frozen (Below.refl _ _)
  have raw1_R_0 := R_0
  have raw1_R_f0 := R_f0
  rw [hw1] at raw1_R_0 raw1_R_f0
  have h3 := ints_litD w1 [2, 3, 4, 6] (i64_litsD (by decide)) (by simp)
  obtain ⟨w2, hw2⟩ : ∃ W, W = w1.alloc (.cells #[.int .i64 2, .int .i64 3, .int .i64 4, .int .i64 6] 3) := ⟨_, rfl⟩
  have z2 : Below w1.heap.size w1 w2 := by rw [hw2]; exact (Below.refl _ _).alloc (Nat.le_refl _) _
  have s2 : w2.heap.size = w1.heap.size + 1 := by rw [hw2]; simp
  have hb2 := turn_on' hb1 (z2.mono (by omega))
  replace HC := HC.below' z2 (by omega)
  replace R_0 := bxc z2 R_0
  replace R_f0 := bxf z2 R_f0
  have e2 : w1.heap.size = w.heap.size + 1 := by omega
  have L_0 : w2.cell? ⟨w1.heap.size, 0, none⟩ = some (.int .i64 2) := by rw [hw2]; exact box_cell (Below.refl _ _) rfl
  have L_1 : w2.cell? ⟨w1.heap.size, 1, none⟩ = some (.int .i64 3) := by rw [hw2]; exact box_cell (Below.refl _ _) rfl
  have L_2 : w2.cell? ⟨w1.heap.size, 2, none⟩ = some (.int .i64 4) := by rw [hw2]; exact box_cell (Below.refl _ _) rfl
  have L_3 : w2.cell? ⟨w1.heap.size, 3, none⟩ = some (.int .i64 6) := by rw [hw2]; exact box_cell (Below.refl _ _) rfl
  rw [e2] at L_0 L_1 L_2 L_3
  have raw2_R_0 := R_0
  have raw2_R_f0 := R_f0
  have raw2_L_0 := L_0
  have raw2_L_1 := L_1
  have raw2_L_2 := L_2
  have raw2_L_3 := L_3
  rw [hw2, hw1] at raw2_R_0 raw2_R_f0 raw2_L_0 raw2_L_1 raw2_L_2 raw2_L_3
  replace h3 : Ints w2 (some ⟨w.heap.size + 1, 0, none⟩) 4 [2, 3, 4, 6] := by rw [hw2, show w.heap.size + 1 = w1.heap.size by omega]; exact h3
  clear L_0 L_1 L_2 L_3
  go_wp2_with fail
  rw [← hw1]
  rw [← hw2]
  clear hw2 hw1
  clear raw1_R_0 raw1_R_f0 raw2_R_0 raw2_R_f0 raw2_L_0 raw2_L_1 raw2_L_2 raw2_L_3
  have HC_o := HC
  clear HC
  refine (l1PickInt_any _ cb ba bn bc _ 4 4 _ (by omega) (by omega) h3 (by omega) HC_o).mono ?_
  rintro e w3 ⟨k0, rfl, hk0, HC, z3⟩
  clear HC_o
  have s4 := Nat.le_of_eq z3.size
  have s4' := Nat.le_of_eq z3.size.symm
  replace z3 := z3.turn
  have hb4 := hb2.trans z3
  replace R_0 := txc z3 R_0
  replace R_f0 := txf z3 R_f0
  clear h3
  obtain ⟨V, rfl, hV⟩ := small_lits (by decide) hk0
  clear hk0
  have h4 := ints_litD w3 [2, 4, 6, 8] (i64_litsD (by decide)) (by simp)
  obtain ⟨w5, hw5⟩ : ∃ W, W = w3.alloc (.cells #[.int .i64 2, .int .i64 4, .int .i64 6, .int .i64 8] 3) := ⟨_, rfl⟩
  have z5 : Below w3.heap.size w3 w5 := by rw [hw5]; exact (Below.refl _ _).alloc (Nat.le_refl _) _
  have s5 : w5.heap.size = w3.heap.size + 1 := by rw [hw5]; simp
  have hb5 := turn_on' hb4 (z5.mono (by omega))
  have old5_R_0 := R_0
  replace HC := HC.below' z5 (by omega)
  replace R_0 := bxc z5 R_0
  replace R_f0 := bxf z5 R_f0
  have L_0 : w5.cell? ⟨w3.heap.size, 0, none⟩ = some (.int .i64 2) := by rw [hw5]; exact box_cell (Below.refl _ _) rfl
  have L_1 : w5.cell? ⟨w3.heap.size, 1, none⟩ = some (.int .i64 4) := by rw [hw5]; exact box_cell (Below.refl _ _) rfl
  have L_2 : w5.cell? ⟨w3.heap.size, 2, none⟩ = some (.int .i64 6) := by rw [hw5]; exact box_cell (Below.refl _ _) rfl
  have L_3 : w5.cell? ⟨w3.heap.size, 3, none⟩ = some (.int .i64 8) := by rw [hw5]; exact box_cell (Below.refl _ _) rfl
  have raw5_R_0 := R_0
  have raw5_R_f0 := R_f0
  have raw5_L_0 := L_0
  have raw5_L_1 := L_1
  have raw5_L_2 := L_2
  have raw5_L_3 := L_3
  rw [hw5] at raw5_R_0 raw5_R_f0 raw5_L_0 raw5_L_1 raw5_L_2 raw5_L_3
  replace h4 : Ints w5 (some ⟨w3.heap.size, 0, none⟩) 4 [2, 4, 6, 8] := by rw [hw5]; exact h4
  clear L_0 L_1 L_2 L_3
  go_wp2_with fail
  rw [← hw5]
  clear hw5
  clear old5_R_0 raw5_R_0 raw5_R_f0 raw5_L_0 raw5_L_1 raw5_L_2 raw5_L_3
  have HC_o := HC
  clear HC
  refine (l1PickInt_any _ cb ba bn bc _ 4 4 _ (by omega) (by omega) h4 (by omega) HC_o).mono ?_
  rintro e w6 ⟨k1, rfl, hk1, HC, z6⟩
  clear HC_o
  have s7 := Nat.le_of_eq z6.size
  have s7' := Nat.le_of_eq z6.size.symm
  replace z6 := z6.turn
  have hb7 := hb5.trans z6
  replace R_0 := txc z6 R_0
  replace R_f0 := txf z6 R_f0
  clear h4
  obtain ⟨M, rfl, hM⟩ := small_lits (by decide) hk1
  clear hk1
  obtain ⟨w8, hw8⟩ : ∃ W, W = w6.alloc (.cells #[.slice none 0 0] 26) := ⟨_, rfl⟩
  have z8 : Below w6.heap.size w6 w8 := by rw [hw8]; exact (Below.refl _ _).alloc (Nat.le_refl _) _
  have s8 : w8.heap.size = w6.heap.size + 1 := by rw [hw8]; simp
  have hb8 := turn_on' hb7 (z8.mono (by omega))
  have old8_R_0 := R_0
  replace HC := HC.below' z8 (by omega)
  replace R_0 := bxc z8 R_0
  replace R_f0 := bxf z8 R_f0
  have X_0 : w8.cell? ⟨w6.heap.size, 0, none⟩ = some (.slice none 0 0) := by rw [hw8]; exact box_cell (Below.refl _ _) rfl
  have X_f0 : w8.frozen? ⟨w6.heap.size, 0, none⟩ = false := by rw [hw8]; exact box_frozen (Below.refl _ _)
  have raw8_R_0 := R_0
  have raw8_R_f0 := R_f0
  have raw8_X_0 := X_0
  have raw8_X_f0 := X_f0
  rw [hw8] at raw8_R_0 raw8_R_f0 raw8_X_0 raw8_X_f0
  obtain ⟨w9, hw9⟩ : ∃ W, W = w8.alloc (.cells #[.string (ByteArray.mk #[114]), .string (ByteArray.mk #[115]), .string (ByteArray.mk #[116]), .string (ByteArray.mk #[117]), .string (ByteArray.mk #[118])] 9) := ⟨_, rfl⟩
  have z9 : Below w8.heap.size w8 w9 := by rw [hw9]; exact (Below.refl _ _).alloc (Nat.le_refl _) _
  have s9 : w9.heap.size = w8.heap.size + 1 := by rw [hw9]; simp
  have hb9 := turn_on' hb8 (z9.mono (by omega))
  replace HC := HC.below' z9 (by omega)
  replace R_0 := bxc z9 R_0
  replace R_f0 := bxf z9 R_f0
  replace X_0 := bxc z9 X_0
  replace X_f0 := bxf z9 X_f0
  have e9 : w8.heap.size = w6.heap.size + 1 := by omega
  have N_0 : w9.cell? ⟨w8.heap.size, 0, none⟩ = some (.string (ByteArray.mk #[114])) := by rw [hw9]; exact box_cell (Below.refl _ _) rfl
  have N_1 : w9.cell? ⟨w8.heap.size, 1, none⟩ = some (.string (ByteArray.mk #[115])) := by rw [hw9]; exact box_cell (Below.refl _ _) rfl
  have N_2 : w9.cell? ⟨w8.heap.size, 2, none⟩ = some (.string (ByteArray.mk #[116])) := by rw [hw9]; exact box_cell (Below.refl _ _) rfl
  have N_3 : w9.cell? ⟨w8.heap.size, 3, none⟩ = some (.string (ByteArray.mk #[117])) := by rw [hw9]; exact box_cell (Below.refl _ _) rfl
  have N_4 : w9.cell? ⟨w8.heap.size, 4, none⟩ = some (.string (ByteArray.mk #[118])) := by rw [hw9]; exact box_cell (Below.refl _ _) rfl
  rw [e9] at N_0 N_1 N_2 N_3 N_4
  have raw9_R_0 := R_0
  have raw9_R_f0 := R_f0
  have raw9_X_0 := X_0
  have raw9_X_f0 := X_f0
  have raw9_N_0 := N_0
  have raw9_N_1 := N_1
  have raw9_N_2 := N_2
  have raw9_N_3 := N_3
  have raw9_N_4 := N_4
  rw [hw9, hw8] at raw9_R_0 raw9_R_f0 raw9_X_0 raw9_X_f0 raw9_N_0 raw9_N_1 raw9_N_2 raw9_N_3 raw9_N_4
  go_wp2_with fail
  rw [← hw8]
  rw [← hw9]
  clear hw9 hw8
  clear old8_R_0 raw8_R_0 raw8_R_f0 raw8_X_0 raw8_X_f0 raw9_R_0 raw9_R_f0 raw9_X_0 raw9_X_f0 raw9_N_0 raw9_N_1 raw9_N_2 raw9_N_3 raw9_N_4
  have HST : Hid (DbSt w cb ba bn bc w6.heap.size (w6.heap.size + 1) 0 w9) := Lib.hid ⟨none, 0, 0, [], rfl, R_0, R_f0, X_0, X_f0, ⟨N_0, N_1, N_2, N_3, N_4⟩, (own_nil_S (B := w6.heap.size + 1 + 1)).mono (Nat.le_refl _) (by omega), HC, hb9, by omega⟩
  have hxb : w.heap.size < w6.heap.size ∧ cb < w6.heap.size := by omega
  obtain ⟨xb, hxbe⟩ : ∃ q, q = w6.heap.size := ⟨_, rfl⟩
  clear R_0 R_f0 X_0 X_f0 N_0 N_1 N_2 N_3 N_4
  go_loopw [19] (fun i wr => ∃ q : Nat, q ≤ 5 ∧ i = .int .i64 (q : Int) ∧ Hid (DbSt w cb ba bn bc w6.heap.size (w6.heap.size + 1) q wr)) (fun i _ => 5 - (intOf i).toNat)
  case atStart => exact ⟨0, Nat.zero_le _, rfl, HST⟩
  case round =>
    clear HST
    obtain ⟨q, hq, rfl, HS⟩ := hrel
    obtain ⟨b, n, c, ts, htl, R_0, R_f0, X_0, X_f0, ⟨N_0, N_1, N_2, N_3, N_4⟩, ho, HC, hbt, hnb⟩ := HS.out
    clear HS
    obtain ⟨wo, rfl⟩ : ∃ W, W = wr := ⟨_, rfl⟩
    by_cases hlt : q < 5
    · rcases (by omega : q = 0 ∨ q = 1 ∨ q = 2 ∨ q = 3 ∨ q = 4) with rfl | rfl | rfl | rfl | rfl
      · have hq5 : ((0 : Nat) : Int) < 5 := by omega
        go_wp2_with fail
        obtain ⟨lo6, hlo6⟩ : ∃ q, q = wo.heap.size := ⟨_, rfl⟩
        rw [← hlo6] at ho
        have HC_o := HC
        clear HC
        refine (l4Tab_any _ cb ba bn bc (ByteArray.mk #[114]) 2 M V (by omega) (by omega) (by omega) HC_o (by omega)).mono ?_
        rintro e w10 ⟨b2, n2, c2, rows, rfl, ho2, hrl, hrr, HC, z10⟩
        clear HC_o
        have s11 := z10.size
        have hb11 := hbt.trans z10
        replace R_0 := txc z10 R_0
        replace R_f0 := txf z10 R_f0
        replace X_0 := txc z10 X_0
        replace X_f0 := txf z10 X_f0
        replace N_0 := txc z10 N_0
        replace N_1 := txc z10 N_1
        replace N_2 := txc z10 N_2
        replace N_3 := txc z10 N_3
        replace N_4 := txc z10 N_4
        have HO := Lib.hid (ho.turn z10 (by omega))
        clear hrr ho
        rw [← hlo6] at ho2
        obtain ⟨hi6, hhi6⟩ : ∃ q, q = w10.heap.size := ⟨_, rfl⟩
        rw [← hhi6] at ho2
        have hl6 : w6.heap.size + 1 + 1 ≤ lo6 := by omega
        have hl7 : lo6 ≤ hi6 := by omega
        have ho9 := HO.out
        clear HO
        obtain ⟨w12, hw12⟩ : ∃ W, W = w10.alloc (.cells #[.string (ByteArray.mk #[114]), .int .i64 2, .slice b2 n2 c2] 44) := ⟨_, rfl⟩
        have z12 : Below w10.heap.size w10 w12 := by rw [hw12]; exact (Below.refl _ _).alloc (Nat.le_refl _) _
        have s12 : w12.heap.size = w10.heap.size + 1 := by rw [hw12]; simp
        have hb12 := turn_on' hb11 (z12.mono (by omega))
        have old12_R_0 := R_0
        have old12_X_0 := X_0
        have old12_N_0 := N_0
        have old12_N_1 := N_1
        have old12_N_2 := N_2
        have old12_N_3 := N_3
        have old12_N_4 := N_4
        replace HC := HC.below' z12 (by omega)
        replace R_0 := bxc z12 R_0
        replace R_f0 := bxf z12 R_f0
        replace X_0 := bxc z12 X_0
        replace X_f0 := bxf z12 X_f0
        replace N_0 := bxc z12 N_0
        replace N_1 := bxc z12 N_1
        replace N_2 := bxc z12 N_2
        replace N_3 := bxc z12 N_3
        replace N_4 := bxc z12 N_4
        replace ho9 := ho9.below z12 (by omega)
        replace ho2 := ho2.below z12 (by omega)
        have T_0 : w12.cell? ⟨w10.heap.size, 0, none⟩ = some (.string (ByteArray.mk #[114])) := by rw [hw12]; exact box_cell (Below.refl _ _) rfl
        have T_1 : w12.cell? ⟨w10.heap.size, 1, none⟩ = some (.int .i64 2) := by rw [hw12]; exact box_cell (Below.refl _ _) rfl
        have T_2 : w12.cell? ⟨w10.heap.size, 2, none⟩ = some (.slice b2 n2 c2) := by rw [hw12]; exact box_cell (Below.refl _ _) rfl
        have raw12_R_0 := R_0
        have raw12_R_f0 := R_f0
        have raw12_X_0 := X_0
        have raw12_X_f0 := X_f0
        have raw12_N_0 := N_0
        have raw12_N_1 := N_1
        have raw12_N_2 := N_2
        have raw12_N_3 := N_3
        have raw12_N_4 := N_4
        have raw12_T_0 := T_0
        have raw12_T_1 := T_1
        have raw12_T_2 := T_2
        rw [hw12] at raw12_R_0 raw12_R_f0 raw12_X_0 raw12_X_f0 raw12_N_0 raw12_N_1 raw12_N_2 raw12_N_3 raw12_N_4 raw12_T_0 raw12_T_1 raw12_T_2
        have oTb : Own oT lo6 hi6 w12 [.string (ByteArray.mk #[114]), .int .i64 2, .slice b2 n2 c2] (ByteArray.mk #[114], 2, rows) := oT_mk (x := (ByteArray.mk #[114], 2, rows)) (show (ByteArray.mk #[114]).size ≤ 9223372036854775807 by decide) (show I64 2 by constructor <;> decide) ho2 (Nat.le_refl _) (Nat.le_refl _)
        obtain ⟨na, nn, nc, wn, hrn, on_, hzn, hzs, _⟩ := own_tab 24 ho9 oTb (by omega) (by omega) (by omega) (by omega) (by omega) rfl
        rw [s12] at hrn
        rw [hw12] at hrn
        clear ho2 ho9 oTb
        have s13 := hzn.size
        have hq13 := hzn.below (by omega)
        have hb13 := turn_on' hb12 (hq13.mono (by omega))
        replace HC := HC.below' hq13 (by omega)
        replace R_0 := txc hzn R_0
        replace R_f0 := txf hzn R_f0
        replace X_0 := txc hzn X_0
        replace X_f0 := txf hzn X_f0
        replace N_0 := txc hzn N_0
        replace N_1 := txc hzn N_1
        replace N_2 := txc hzn N_2
        replace N_3 := txc hzn N_3
        replace N_4 := txc hzn N_4
        have zS : Below w6.heap.size wn (wn.setCell ⟨w6.heap.size, 0, none⟩ (.slice na nn nc)) := Below.setCell (Below.refl _ _) (by simp only []; omega) _
        have HS2 : Hid (DbSt w cb ba bn bc w6.heap.size (w6.heap.size + 1) 1 (wn.setCell ⟨w6.heap.size, 0, none⟩ (.slice na nn nc))) := Lib.hid ⟨na, nn, nc, ts ++ [(ByteArray.mk #[114], 2, rows)], by rw [List.length_append, htl]; rfl,
          (zS.cell (p := ⟨w.heap.size, 0, none⟩) (by simp only []; omega)).trans R_0, (zS.frozen (p := ⟨w.heap.size, 0, none⟩) (by simp only []; omega)).trans R_f0, by simp [go_sem, X_0], by simp [go_sem, X_f0], ⟨World.cell?_of_block (a := ⟨w6.heap.size + 1, 0, none⟩) (Below.heap_setCell _ _ _ _ (by simp only []; omega)) |>.trans N_0, World.cell?_of_block (a := ⟨w6.heap.size + 1, 1, none⟩) (Below.heap_setCell _ _ _ _ (by simp only []; omega)) |>.trans N_1, World.cell?_of_block (a := ⟨w6.heap.size + 1, 2, none⟩) (Below.heap_setCell _ _ _ _ (by simp only []; omega)) |>.trans N_2, World.cell?_of_block (a := ⟨w6.heap.size + 1, 3, none⟩) (Below.heap_setCell _ _ _ _ (by simp only []; omega)) |>.trans N_3, World.cell?_of_block (a := ⟨w6.heap.size + 1, 4, none⟩) (Below.heap_setCell _ _ _ _ (by simp only []; omega)) |>.trans N_4⟩,
          (Own.setOut on_ rfl (by simp only []; omega)).mono (Nat.le_refl _) (by simp [World.setCell]), HC.below' zS (by omega), turn_on' hb13 (zS.mono (by omega)), by simp [World.setCell]; omega⟩
        clear on_ zS
        go_wp2_with ((at_builtin; refine wpList_app_run hrn rfl rfl rfl rfl rfl ?_))
        go_roundw
        case rel => exact ⟨1, by omega, by go_num, HS2⟩
        case measure => simp [intOf]
      · have hq5 : ((1 : Nat) : Int) < 5 := by omega
        go_wp2_with fail
        obtain ⟨lo6, hlo6⟩ : ∃ q, q = wo.heap.size := ⟨_, rfl⟩
        rw [← hlo6] at ho
        have HC_o := HC
        clear HC
        refine (l4Tab_any _ cb ba bn bc (ByteArray.mk #[115]) 2 M V (by omega) (by omega) (by omega) HC_o (by omega)).mono ?_
        rintro e w14 ⟨b2, n2, c2, rows, rfl, ho2, hrl, hrr, HC, z14⟩
        clear HC_o
        have s15 := z14.size
        have hb15 := hbt.trans z14
        replace R_0 := txc z14 R_0
        replace R_f0 := txf z14 R_f0
        replace X_0 := txc z14 X_0
        replace X_f0 := txf z14 X_f0
        replace N_0 := txc z14 N_0
        replace N_1 := txc z14 N_1
        replace N_2 := txc z14 N_2
        replace N_3 := txc z14 N_3
        replace N_4 := txc z14 N_4
        have HO := Lib.hid (ho.turn z14 (by omega))
        clear hrr ho
        rw [← hlo6] at ho2
        obtain ⟨hi6, hhi6⟩ : ∃ q, q = w14.heap.size := ⟨_, rfl⟩
        rw [← hhi6] at ho2
        have hl6 : w6.heap.size + 1 + 1 ≤ lo6 := by omega
        have hl7 : lo6 ≤ hi6 := by omega
        have ho9 := HO.out
        clear HO
        obtain ⟨w16, hw16⟩ : ∃ W, W = w14.alloc (.cells #[.string (ByteArray.mk #[115]), .int .i64 2, .slice b2 n2 c2] 44) := ⟨_, rfl⟩
        have z16 : Below w14.heap.size w14 w16 := by rw [hw16]; exact (Below.refl _ _).alloc (Nat.le_refl _) _
        have s16 : w16.heap.size = w14.heap.size + 1 := by rw [hw16]; simp
        have hb16 := turn_on' hb15 (z16.mono (by omega))
        have old16_R_0 := R_0
        have old16_X_0 := X_0
        have old16_N_0 := N_0
        have old16_N_1 := N_1
        have old16_N_2 := N_2
        have old16_N_3 := N_3
        have old16_N_4 := N_4
        replace HC := HC.below' z16 (by omega)
        replace R_0 := bxc z16 R_0
        replace R_f0 := bxf z16 R_f0
        replace X_0 := bxc z16 X_0
        replace X_f0 := bxf z16 X_f0
        replace N_0 := bxc z16 N_0
        replace N_1 := bxc z16 N_1
        replace N_2 := bxc z16 N_2
        replace N_3 := bxc z16 N_3
        replace N_4 := bxc z16 N_4
        replace ho9 := ho9.below z16 (by omega)
        replace ho2 := ho2.below z16 (by omega)
        have T_0 : w16.cell? ⟨w14.heap.size, 0, none⟩ = some (.string (ByteArray.mk #[115])) := by rw [hw16]; exact box_cell (Below.refl _ _) rfl
        have T_1 : w16.cell? ⟨w14.heap.size, 1, none⟩ = some (.int .i64 2) := by rw [hw16]; exact box_cell (Below.refl _ _) rfl
        have T_2 : w16.cell? ⟨w14.heap.size, 2, none⟩ = some (.slice b2 n2 c2) := by rw [hw16]; exact box_cell (Below.refl _ _) rfl
        have raw16_R_0 := R_0
        have raw16_R_f0 := R_f0
        have raw16_X_0 := X_0
        have raw16_X_f0 := X_f0
        have raw16_N_0 := N_0
        have raw16_N_1 := N_1
        have raw16_N_2 := N_2
        have raw16_N_3 := N_3
        have raw16_N_4 := N_4
        have raw16_T_0 := T_0
        have raw16_T_1 := T_1
        have raw16_T_2 := T_2
        rw [hw16] at raw16_R_0 raw16_R_f0 raw16_X_0 raw16_X_f0 raw16_N_0 raw16_N_1 raw16_N_2 raw16_N_3 raw16_N_4 raw16_T_0 raw16_T_1 raw16_T_2
        have oTb : Own oT lo6 hi6 w16 [.string (ByteArray.mk #[115]), .int .i64 2, .slice b2 n2 c2] (ByteArray.mk #[115], 2, rows) := oT_mk (x := (ByteArray.mk #[115], 2, rows)) (show (ByteArray.mk #[115]).size ≤ 9223372036854775807 by decide) (show I64 2 by constructor <;> decide) ho2 (Nat.le_refl _) (Nat.le_refl _)
        obtain ⟨na, nn, nc, wn, hrn, on_, hzn, hzs, _⟩ := own_tab 24 ho9 oTb (by omega) (by omega) (by omega) (by omega) (by omega) rfl
        rw [s16] at hrn
        rw [hw16] at hrn
        clear ho2 ho9 oTb
        have s17 := hzn.size
        have hq17 := hzn.below (by omega)
        have hb17 := turn_on' hb16 (hq17.mono (by omega))
        replace HC := HC.below' hq17 (by omega)
        replace R_0 := txc hzn R_0
        replace R_f0 := txf hzn R_f0
        replace X_0 := txc hzn X_0
        replace X_f0 := txf hzn X_f0
        replace N_0 := txc hzn N_0
        replace N_1 := txc hzn N_1
        replace N_2 := txc hzn N_2
        replace N_3 := txc hzn N_3
        replace N_4 := txc hzn N_4
        have zS : Below w6.heap.size wn (wn.setCell ⟨w6.heap.size, 0, none⟩ (.slice na nn nc)) := Below.setCell (Below.refl _ _) (by simp only []; omega) _
        have HS2 : Hid (DbSt w cb ba bn bc w6.heap.size (w6.heap.size + 1) 2 (wn.setCell ⟨w6.heap.size, 0, none⟩ (.slice na nn nc))) := Lib.hid ⟨na, nn, nc, ts ++ [(ByteArray.mk #[115], 2, rows)], by rw [List.length_append, htl]; rfl,
          (zS.cell (p := ⟨w.heap.size, 0, none⟩) (by simp only []; omega)).trans R_0, (zS.frozen (p := ⟨w.heap.size, 0, none⟩) (by simp only []; omega)).trans R_f0, by simp [go_sem, X_0], by simp [go_sem, X_f0], ⟨World.cell?_of_block (a := ⟨w6.heap.size + 1, 0, none⟩) (Below.heap_setCell _ _ _ _ (by simp only []; omega)) |>.trans N_0, World.cell?_of_block (a := ⟨w6.heap.size + 1, 1, none⟩) (Below.heap_setCell _ _ _ _ (by simp only []; omega)) |>.trans N_1, World.cell?_of_block (a := ⟨w6.heap.size + 1, 2, none⟩) (Below.heap_setCell _ _ _ _ (by simp only []; omega)) |>.trans N_2, World.cell?_of_block (a := ⟨w6.heap.size + 1, 3, none⟩) (Below.heap_setCell _ _ _ _ (by simp only []; omega)) |>.trans N_3, World.cell?_of_block (a := ⟨w6.heap.size + 1, 4, none⟩) (Below.heap_setCell _ _ _ _ (by simp only []; omega)) |>.trans N_4⟩,
          (Own.setOut on_ rfl (by simp only []; omega)).mono (Nat.le_refl _) (by simp [World.setCell]), HC.below' zS (by omega), turn_on' hb17 (zS.mono (by omega)), by simp [World.setCell]; omega⟩
        clear on_ zS
        go_wp2_with ((at_builtin; refine wpList_app_run hrn rfl rfl rfl rfl rfl ?_))
        go_roundw
        case rel => exact ⟨2, by omega, by go_num, HS2⟩
        case measure => simp [intOf]
      · have hq5 : ((2 : Nat) : Int) < 5 := by omega
        go_wp2_with fail
        obtain ⟨lo6, hlo6⟩ : ∃ q, q = wo.heap.size := ⟨_, rfl⟩
        rw [← hlo6] at ho
        have HC_o := HC
        clear HC
        refine (l4Tab_any _ cb ba bn bc (ByteArray.mk #[116]) 2 M V (by omega) (by omega) (by omega) HC_o (by omega)).mono ?_
        rintro e w18 ⟨b2, n2, c2, rows, rfl, ho2, hrl, hrr, HC, z18⟩
        clear HC_o
        have s19 := z18.size
        have hb19 := hbt.trans z18
        replace R_0 := txc z18 R_0
        replace R_f0 := txf z18 R_f0
        replace X_0 := txc z18 X_0
        replace X_f0 := txf z18 X_f0
        replace N_0 := txc z18 N_0
        replace N_1 := txc z18 N_1
        replace N_2 := txc z18 N_2
        replace N_3 := txc z18 N_3
        replace N_4 := txc z18 N_4
        have HO := Lib.hid (ho.turn z18 (by omega))
        clear hrr ho
        rw [← hlo6] at ho2
        obtain ⟨hi6, hhi6⟩ : ∃ q, q = w18.heap.size := ⟨_, rfl⟩
        rw [← hhi6] at ho2
        have hl6 : w6.heap.size + 1 + 1 ≤ lo6 := by omega
        have hl7 : lo6 ≤ hi6 := by omega
        have ho9 := HO.out
        clear HO
        obtain ⟨w20, hw20⟩ : ∃ W, W = w18.alloc (.cells #[.string (ByteArray.mk #[116]), .int .i64 2, .slice b2 n2 c2] 44) := ⟨_, rfl⟩
        have z20 : Below w18.heap.size w18 w20 := by rw [hw20]; exact (Below.refl _ _).alloc (Nat.le_refl _) _
        have s20 : w20.heap.size = w18.heap.size + 1 := by rw [hw20]; simp
        have hb20 := turn_on' hb19 (z20.mono (by omega))
        have old20_R_0 := R_0
        have old20_X_0 := X_0
        have old20_N_0 := N_0
        have old20_N_1 := N_1
        have old20_N_2 := N_2
        have old20_N_3 := N_3
        have old20_N_4 := N_4
        replace HC := HC.below' z20 (by omega)
        replace R_0 := bxc z20 R_0
        replace R_f0 := bxf z20 R_f0
        replace X_0 := bxc z20 X_0
        replace X_f0 := bxf z20 X_f0
        replace N_0 := bxc z20 N_0
        replace N_1 := bxc z20 N_1
        replace N_2 := bxc z20 N_2
        replace N_3 := bxc z20 N_3
        replace N_4 := bxc z20 N_4
        replace ho9 := ho9.below z20 (by omega)
        replace ho2 := ho2.below z20 (by omega)
        have T_0 : w20.cell? ⟨w18.heap.size, 0, none⟩ = some (.string (ByteArray.mk #[116])) := by rw [hw20]; exact box_cell (Below.refl _ _) rfl
        have T_1 : w20.cell? ⟨w18.heap.size, 1, none⟩ = some (.int .i64 2) := by rw [hw20]; exact box_cell (Below.refl _ _) rfl
        have T_2 : w20.cell? ⟨w18.heap.size, 2, none⟩ = some (.slice b2 n2 c2) := by rw [hw20]; exact box_cell (Below.refl _ _) rfl
        have raw20_R_0 := R_0
        have raw20_R_f0 := R_f0
        have raw20_X_0 := X_0
        have raw20_X_f0 := X_f0
        have raw20_N_0 := N_0
        have raw20_N_1 := N_1
        have raw20_N_2 := N_2
        have raw20_N_3 := N_3
        have raw20_N_4 := N_4
        have raw20_T_0 := T_0
        have raw20_T_1 := T_1
        have raw20_T_2 := T_2
        rw [hw20] at raw20_R_0 raw20_R_f0 raw20_X_0 raw20_X_f0 raw20_N_0 raw20_N_1 raw20_N_2 raw20_N_3 raw20_N_4 raw20_T_0 raw20_T_1 raw20_T_2
        have oTb : Own oT lo6 hi6 w20 [.string (ByteArray.mk #[116]), .int .i64 2, .slice b2 n2 c2] (ByteArray.mk #[116], 2, rows) := oT_mk (x := (ByteArray.mk #[116], 2, rows)) (show (ByteArray.mk #[116]).size ≤ 9223372036854775807 by decide) (show I64 2 by constructor <;> decide) ho2 (Nat.le_refl _) (Nat.le_refl _)
        obtain ⟨na, nn, nc, wn, hrn, on_, hzn, hzs, _⟩ := own_tab 24 ho9 oTb (by omega) (by omega) (by omega) (by omega) (by omega) rfl
        rw [s20] at hrn
        rw [hw20] at hrn
        clear ho2 ho9 oTb
        have s21 := hzn.size
        have hq21 := hzn.below (by omega)
        have hb21 := turn_on' hb20 (hq21.mono (by omega))
        replace HC := HC.below' hq21 (by omega)
        replace R_0 := txc hzn R_0
        replace R_f0 := txf hzn R_f0
        replace X_0 := txc hzn X_0
        replace X_f0 := txf hzn X_f0
        replace N_0 := txc hzn N_0
        replace N_1 := txc hzn N_1
        replace N_2 := txc hzn N_2
        replace N_3 := txc hzn N_3
        replace N_4 := txc hzn N_4
        have zS : Below w6.heap.size wn (wn.setCell ⟨w6.heap.size, 0, none⟩ (.slice na nn nc)) := Below.setCell (Below.refl _ _) (by simp only []; omega) _
        have HS2 : Hid (DbSt w cb ba bn bc w6.heap.size (w6.heap.size + 1) 3 (wn.setCell ⟨w6.heap.size, 0, none⟩ (.slice na nn nc))) := Lib.hid ⟨na, nn, nc, ts ++ [(ByteArray.mk #[116], 2, rows)], by rw [List.length_append, htl]; rfl,
          (zS.cell (p := ⟨w.heap.size, 0, none⟩) (by simp only []; omega)).trans R_0, (zS.frozen (p := ⟨w.heap.size, 0, none⟩) (by simp only []; omega)).trans R_f0, by simp [go_sem, X_0], by simp [go_sem, X_f0], ⟨World.cell?_of_block (a := ⟨w6.heap.size + 1, 0, none⟩) (Below.heap_setCell _ _ _ _ (by simp only []; omega)) |>.trans N_0, World.cell?_of_block (a := ⟨w6.heap.size + 1, 1, none⟩) (Below.heap_setCell _ _ _ _ (by simp only []; omega)) |>.trans N_1, World.cell?_of_block (a := ⟨w6.heap.size + 1, 2, none⟩) (Below.heap_setCell _ _ _ _ (by simp only []; omega)) |>.trans N_2, World.cell?_of_block (a := ⟨w6.heap.size + 1, 3, none⟩) (Below.heap_setCell _ _ _ _ (by simp only []; omega)) |>.trans N_3, World.cell?_of_block (a := ⟨w6.heap.size + 1, 4, none⟩) (Below.heap_setCell _ _ _ _ (by simp only []; omega)) |>.trans N_4⟩,
          (Own.setOut on_ rfl (by simp only []; omega)).mono (Nat.le_refl _) (by simp [World.setCell]), HC.below' zS (by omega), turn_on' hb21 (zS.mono (by omega)), by simp [World.setCell]; omega⟩
        clear on_ zS
        go_wp2_with ((at_builtin; refine wpList_app_run hrn rfl rfl rfl rfl rfl ?_))
        go_roundw
        case rel => exact ⟨3, by omega, by go_num, HS2⟩
        case measure => simp [intOf]
      · have hq5 : ((3 : Nat) : Int) < 5 := by omega
        go_wp2_with fail
        obtain ⟨lo6, hlo6⟩ : ∃ q, q = wo.heap.size := ⟨_, rfl⟩
        rw [← hlo6] at ho
        have HC_o := HC
        clear HC
        refine (l4Tab_any _ cb ba bn bc (ByteArray.mk #[117]) 3 M V (by omega) (by omega) (by omega) HC_o (by omega)).mono ?_
        rintro e w22 ⟨b2, n2, c2, rows, rfl, ho2, hrl, hrr, HC, z22⟩
        clear HC_o
        have s23 := z22.size
        have hb23 := hbt.trans z22
        replace R_0 := txc z22 R_0
        replace R_f0 := txf z22 R_f0
        replace X_0 := txc z22 X_0
        replace X_f0 := txf z22 X_f0
        replace N_0 := txc z22 N_0
        replace N_1 := txc z22 N_1
        replace N_2 := txc z22 N_2
        replace N_3 := txc z22 N_3
        replace N_4 := txc z22 N_4
        have HO := Lib.hid (ho.turn z22 (by omega))
        clear hrr ho
        rw [← hlo6] at ho2
        obtain ⟨hi6, hhi6⟩ : ∃ q, q = w22.heap.size := ⟨_, rfl⟩
        rw [← hhi6] at ho2
        have hl6 : w6.heap.size + 1 + 1 ≤ lo6 := by omega
        have hl7 : lo6 ≤ hi6 := by omega
        have ho9 := HO.out
        clear HO
        obtain ⟨w24, hw24⟩ : ∃ W, W = w22.alloc (.cells #[.string (ByteArray.mk #[117]), .int .i64 3, .slice b2 n2 c2] 44) := ⟨_, rfl⟩
        have z24 : Below w22.heap.size w22 w24 := by rw [hw24]; exact (Below.refl _ _).alloc (Nat.le_refl _) _
        have s24 : w24.heap.size = w22.heap.size + 1 := by rw [hw24]; simp
        have hb24 := turn_on' hb23 (z24.mono (by omega))
        have old24_R_0 := R_0
        have old24_X_0 := X_0
        have old24_N_0 := N_0
        have old24_N_1 := N_1
        have old24_N_2 := N_2
        have old24_N_3 := N_3
        have old24_N_4 := N_4
        replace HC := HC.below' z24 (by omega)
        replace R_0 := bxc z24 R_0
        replace R_f0 := bxf z24 R_f0
        replace X_0 := bxc z24 X_0
        replace X_f0 := bxf z24 X_f0
        replace N_0 := bxc z24 N_0
        replace N_1 := bxc z24 N_1
        replace N_2 := bxc z24 N_2
        replace N_3 := bxc z24 N_3
        replace N_4 := bxc z24 N_4
        replace ho9 := ho9.below z24 (by omega)
        replace ho2 := ho2.below z24 (by omega)
        have T_0 : w24.cell? ⟨w22.heap.size, 0, none⟩ = some (.string (ByteArray.mk #[117])) := by rw [hw24]; exact box_cell (Below.refl _ _) rfl
        have T_1 : w24.cell? ⟨w22.heap.size, 1, none⟩ = some (.int .i64 3) := by rw [hw24]; exact box_cell (Below.refl _ _) rfl
        have T_2 : w24.cell? ⟨w22.heap.size, 2, none⟩ = some (.slice b2 n2 c2) := by rw [hw24]; exact box_cell (Below.refl _ _) rfl
        have raw24_R_0 := R_0
        have raw24_R_f0 := R_f0
        have raw24_X_0 := X_0
        have raw24_X_f0 := X_f0
        have raw24_N_0 := N_0
        have raw24_N_1 := N_1
        have raw24_N_2 := N_2
        have raw24_N_3 := N_3
        have raw24_N_4 := N_4
        have raw24_T_0 := T_0
        have raw24_T_1 := T_1
        have raw24_T_2 := T_2
        rw [hw24] at raw24_R_0 raw24_R_f0 raw24_X_0 raw24_X_f0 raw24_N_0 raw24_N_1 raw24_N_2 raw24_N_3 raw24_N_4 raw24_T_0 raw24_T_1 raw24_T_2
        have oTb : Own oT lo6 hi6 w24 [.string (ByteArray.mk #[117]), .int .i64 3, .slice b2 n2 c2] (ByteArray.mk #[117], 3, rows) := oT_mk (x := (ByteArray.mk #[117], 3, rows)) (show (ByteArray.mk #[117]).size ≤ 9223372036854775807 by decide) (show I64 3 by constructor <;> decide) ho2 (Nat.le_refl _) (Nat.le_refl _)
        obtain ⟨na, nn, nc, wn, hrn, on_, hzn, hzs, _⟩ := own_tab 24 ho9 oTb (by omega) (by omega) (by omega) (by omega) (by omega) rfl
        rw [s24] at hrn
        rw [hw24] at hrn
        clear ho2 ho9 oTb
        have s25 := hzn.size
        have hq25 := hzn.below (by omega)
        have hb25 := turn_on' hb24 (hq25.mono (by omega))
        replace HC := HC.below' hq25 (by omega)
        replace R_0 := txc hzn R_0
        replace R_f0 := txf hzn R_f0
        replace X_0 := txc hzn X_0
        replace X_f0 := txf hzn X_f0
        replace N_0 := txc hzn N_0
        replace N_1 := txc hzn N_1
        replace N_2 := txc hzn N_2
        replace N_3 := txc hzn N_3
        replace N_4 := txc hzn N_4
        have zS : Below w6.heap.size wn (wn.setCell ⟨w6.heap.size, 0, none⟩ (.slice na nn nc)) := Below.setCell (Below.refl _ _) (by simp only []; omega) _
        have HS2 : Hid (DbSt w cb ba bn bc w6.heap.size (w6.heap.size + 1) 4 (wn.setCell ⟨w6.heap.size, 0, none⟩ (.slice na nn nc))) := Lib.hid ⟨na, nn, nc, ts ++ [(ByteArray.mk #[117], 3, rows)], by rw [List.length_append, htl]; rfl,
          (zS.cell (p := ⟨w.heap.size, 0, none⟩) (by simp only []; omega)).trans R_0, (zS.frozen (p := ⟨w.heap.size, 0, none⟩) (by simp only []; omega)).trans R_f0, by simp [go_sem, X_0], by simp [go_sem, X_f0], ⟨World.cell?_of_block (a := ⟨w6.heap.size + 1, 0, none⟩) (Below.heap_setCell _ _ _ _ (by simp only []; omega)) |>.trans N_0, World.cell?_of_block (a := ⟨w6.heap.size + 1, 1, none⟩) (Below.heap_setCell _ _ _ _ (by simp only []; omega)) |>.trans N_1, World.cell?_of_block (a := ⟨w6.heap.size + 1, 2, none⟩) (Below.heap_setCell _ _ _ _ (by simp only []; omega)) |>.trans N_2, World.cell?_of_block (a := ⟨w6.heap.size + 1, 3, none⟩) (Below.heap_setCell _ _ _ _ (by simp only []; omega)) |>.trans N_3, World.cell?_of_block (a := ⟨w6.heap.size + 1, 4, none⟩) (Below.heap_setCell _ _ _ _ (by simp only []; omega)) |>.trans N_4⟩,
          (Own.setOut on_ rfl (by simp only []; omega)).mono (Nat.le_refl _) (by simp [World.setCell]), HC.below' zS (by omega), turn_on' hb25 (zS.mono (by omega)), by simp [World.setCell]; omega⟩
        clear on_ zS
        go_wp2_with ((at_builtin; refine wpList_app_run hrn rfl rfl rfl rfl rfl ?_))
        go_roundw
        case rel => exact ⟨4, by omega, by go_num, HS2⟩
        case measure => simp [intOf]
      · have hq5 : ((4 : Nat) : Int) < 5 := by omega
        go_wp2_with fail
        obtain ⟨lo6, hlo6⟩ : ∃ q, q = wo.heap.size := ⟨_, rfl⟩
        rw [← hlo6] at ho
        have HC_o := HC
        clear HC
        refine (l4Tab_any _ cb ba bn bc (ByteArray.mk #[118]) 1 M V (by omega) (by omega) (by omega) HC_o (by omega)).mono ?_
        rintro e w26 ⟨b2, n2, c2, rows, rfl, ho2, hrl, hrr, HC, z26⟩
        clear HC_o
        have s27 := z26.size
        have hb27 := hbt.trans z26
        replace R_0 := txc z26 R_0
        replace R_f0 := txf z26 R_f0
        replace X_0 := txc z26 X_0
        replace X_f0 := txf z26 X_f0
        replace N_0 := txc z26 N_0
        replace N_1 := txc z26 N_1
        replace N_2 := txc z26 N_2
        replace N_3 := txc z26 N_3
        replace N_4 := txc z26 N_4
        have HO := Lib.hid (ho.turn z26 (by omega))
        clear hrr ho
        rw [← hlo6] at ho2
        obtain ⟨hi6, hhi6⟩ : ∃ q, q = w26.heap.size := ⟨_, rfl⟩
        rw [← hhi6] at ho2
        have hl6 : w6.heap.size + 1 + 1 ≤ lo6 := by omega
        have hl7 : lo6 ≤ hi6 := by omega
        have ho9 := HO.out
        clear HO
        obtain ⟨w28, hw28⟩ : ∃ W, W = w26.alloc (.cells #[.string (ByteArray.mk #[118]), .int .i64 1, .slice b2 n2 c2] 44) := ⟨_, rfl⟩
        have z28 : Below w26.heap.size w26 w28 := by rw [hw28]; exact (Below.refl _ _).alloc (Nat.le_refl _) _
        have s28 : w28.heap.size = w26.heap.size + 1 := by rw [hw28]; simp
        have hb28 := turn_on' hb27 (z28.mono (by omega))
        have old28_R_0 := R_0
        have old28_X_0 := X_0
        have old28_N_0 := N_0
        have old28_N_1 := N_1
        have old28_N_2 := N_2
        have old28_N_3 := N_3
        have old28_N_4 := N_4
        replace HC := HC.below' z28 (by omega)
        replace R_0 := bxc z28 R_0
        replace R_f0 := bxf z28 R_f0
        replace X_0 := bxc z28 X_0
        replace X_f0 := bxf z28 X_f0
        replace N_0 := bxc z28 N_0
        replace N_1 := bxc z28 N_1
        replace N_2 := bxc z28 N_2
        replace N_3 := bxc z28 N_3
        replace N_4 := bxc z28 N_4
        replace ho9 := ho9.below z28 (by omega)
        replace ho2 := ho2.below z28 (by omega)
        have T_0 : w28.cell? ⟨w26.heap.size, 0, none⟩ = some (.string (ByteArray.mk #[118])) := by rw [hw28]; exact box_cell (Below.refl _ _) rfl
        have T_1 : w28.cell? ⟨w26.heap.size, 1, none⟩ = some (.int .i64 1) := by rw [hw28]; exact box_cell (Below.refl _ _) rfl
        have T_2 : w28.cell? ⟨w26.heap.size, 2, none⟩ = some (.slice b2 n2 c2) := by rw [hw28]; exact box_cell (Below.refl _ _) rfl
        have raw28_R_0 := R_0
        have raw28_R_f0 := R_f0
        have raw28_X_0 := X_0
        have raw28_X_f0 := X_f0
        have raw28_N_0 := N_0
        have raw28_N_1 := N_1
        have raw28_N_2 := N_2
        have raw28_N_3 := N_3
        have raw28_N_4 := N_4
        have raw28_T_0 := T_0
        have raw28_T_1 := T_1
        have raw28_T_2 := T_2
        rw [hw28] at raw28_R_0 raw28_R_f0 raw28_X_0 raw28_X_f0 raw28_N_0 raw28_N_1 raw28_N_2 raw28_N_3 raw28_N_4 raw28_T_0 raw28_T_1 raw28_T_2
        have oTb : Own oT lo6 hi6 w28 [.string (ByteArray.mk #[118]), .int .i64 1, .slice b2 n2 c2] (ByteArray.mk #[118], 1, rows) := oT_mk (x := (ByteArray.mk #[118], 1, rows)) (show (ByteArray.mk #[118]).size ≤ 9223372036854775807 by decide) (show I64 1 by constructor <;> decide) ho2 (Nat.le_refl _) (Nat.le_refl _)
        obtain ⟨na, nn, nc, wn, hrn, on_, hzn, hzs, _⟩ := own_tab 24 ho9 oTb (by omega) (by omega) (by omega) (by omega) (by omega) rfl
        rw [s28] at hrn
        rw [hw28] at hrn
        clear ho2 ho9 oTb
        have s29 := hzn.size
        have hq29 := hzn.below (by omega)
        have hb29 := turn_on' hb28 (hq29.mono (by omega))
        replace HC := HC.below' hq29 (by omega)
        replace R_0 := txc hzn R_0
        replace R_f0 := txf hzn R_f0
        replace X_0 := txc hzn X_0
        replace X_f0 := txf hzn X_f0
        replace N_0 := txc hzn N_0
        replace N_1 := txc hzn N_1
        replace N_2 := txc hzn N_2
        replace N_3 := txc hzn N_3
        replace N_4 := txc hzn N_4
        have zS : Below w6.heap.size wn (wn.setCell ⟨w6.heap.size, 0, none⟩ (.slice na nn nc)) := Below.setCell (Below.refl _ _) (by simp only []; omega) _
        have HS2 : Hid (DbSt w cb ba bn bc w6.heap.size (w6.heap.size + 1) 5 (wn.setCell ⟨w6.heap.size, 0, none⟩ (.slice na nn nc))) := Lib.hid ⟨na, nn, nc, ts ++ [(ByteArray.mk #[118], 1, rows)], by rw [List.length_append, htl]; rfl,
          (zS.cell (p := ⟨w.heap.size, 0, none⟩) (by simp only []; omega)).trans R_0, (zS.frozen (p := ⟨w.heap.size, 0, none⟩) (by simp only []; omega)).trans R_f0, by simp [go_sem, X_0], by simp [go_sem, X_f0], ⟨World.cell?_of_block (a := ⟨w6.heap.size + 1, 0, none⟩) (Below.heap_setCell _ _ _ _ (by simp only []; omega)) |>.trans N_0, World.cell?_of_block (a := ⟨w6.heap.size + 1, 1, none⟩) (Below.heap_setCell _ _ _ _ (by simp only []; omega)) |>.trans N_1, World.cell?_of_block (a := ⟨w6.heap.size + 1, 2, none⟩) (Below.heap_setCell _ _ _ _ (by simp only []; omega)) |>.trans N_2, World.cell?_of_block (a := ⟨w6.heap.size + 1, 3, none⟩) (Below.heap_setCell _ _ _ _ (by simp only []; omega)) |>.trans N_3, World.cell?_of_block (a := ⟨w6.heap.size + 1, 4, none⟩) (Below.heap_setCell _ _ _ _ (by simp only []; omega)) |>.trans N_4⟩,
          (Own.setOut on_ rfl (by simp only []; omega)).mono (Nat.le_refl _) (by simp [World.setCell]), HC.below' zS (by omega), turn_on' hb29 (zS.mono (by omega)), by simp [World.setCell]; omega⟩
        clear on_ zS
        go_wp2_with ((at_builtin; refine wpList_app_run hrn rfl rfl rfl rfl rfl ?_))
        go_roundw
        case rel => exact ⟨5, by omega, by go_num, HS2⟩
        case measure => simp [intOf]
    · obtain rfl : q = 5 := by omega
      clear N_0 N_1 N_2 N_3 N_4
      obtain ⟨hnn, g, rfl⟩ := oTl_some ho (by omega)
      rw [htl] at hnn
      subst hnn
      obtain ⟨hi6, hhi6⟩ : ∃ q, q = wo.heap.size := ⟨_, rfl⟩
      rw [← hhi6] at ho
      go_wp2_with fail
      have HC_o := HC
      clear HC
      refine (l1Once_any _ cb ba bn bc 8 (by omega) HC_o).mono ?_
      rintro e w30 ⟨t9, rfl, HC, z30⟩
      clear HC_o
      have s31 := Nat.le_of_eq z30.size
      have s31' := Nat.le_of_eq z30.size.symm
      replace z30 := z30.turn
      have hb31 := hbt.trans z30
      replace R_0 := txc z30 R_0
      replace R_f0 := txf z30 R_f0
      replace X_0 := txc z30 X_0
      replace X_f0 := txf z30 X_f0
      replace ho := ho.turn z30 (by omega)
      cases t9 with
      | false =>
        go_wp2_with fail
        refine bodyPost_ret (v := .agg #[.slice (some ⟨g, 0, none⟩) 5 c]) (by simp [results, Tryz.results49, go_sem, R_0, R_f0]) rfl ⟨g, 5, c, ts, rfl, htl, rfl, ?_, ?_, ?_⟩
        · refine Own.mono (lo := w6.heap.size + 1 + 1) (hi := hi6) ?_ (by omega) (by simp [World.setCell]; omega)
          repeat (refine own_off ?_ rfl (by simp only []; omega))
          exact ho
        · refine Cur.below' (C := w.heap.size) HC ?_ hcb
          repeat (refine Below.setCell ?_ (by simp only []; omega) _)
          exact Below.refl _ _
        · refine turn_on' hb31 ?_
          repeat (refine Below.setCell ?_ (by simp only []; omega) _)
          exact Below.refl _ _
      | true =>
        go_wp2_with fail
        have hdr : Below w30.heap.size w30 w30.drew := (Below.refl _ _).drew
        refine wp_region_noPanic ?_
        refine wp_region_held_drew (S := (fun W => W.cell? ⟨w6.heap.size, 0, none⟩ = some (.slice (some ⟨g, 0, none⟩) 5 c))) (by kernel_rfl) ?hS32 (fun hHeld => ?_)
        case hS32 => exact X_0
        refine wpAnyH_take (i := 0) (v := ?v0_33) rfl (by kernel_rfl) (by kernel_rfl) (by kernel_rfl) (fun _ _ _ h => h) (Or.inl ⟨by rfl, ?hy0_33⟩) (by assumption) ?rest0_33
        case hy0_33 => intro w hSw; (try dsimp only at hSw); go_simp; (try with_reducible rfl)
        try simp only [Act.put, lgA, lgB, lgC, lgD, lgE, lgF]
        refine wpAnyH_take (i := 1) (v := ?v1_34) rfl (by kernel_rfl) (by kernel_rfl) (by kernel_rfl) (fun _ _ _ h => h) (Or.inl ⟨by rfl, ?hy1_34⟩) (by assumption) ?rest1_34
        case hy1_34 => intro w hSw; (try dsimp only at hSw); go_simp; (try with_reducible rfl)
        try simp only [Act.put, lgA, lgB, lgC, lgD, lgE, lgF]
        refine wpAnyH_take (i := 2) (v := ?v2_35) rfl (by kernel_rfl) (by kernel_rfl) (by kernel_rfl) (fun _ _ _ h => h) (Or.inl ⟨by rfl, ?hy2_35⟩) (by assumption) ?rest2_35
        case hy2_35 => intro w hSw; (try dsimp only at hSw); go_simp; (try with_reducible rfl)
        try simp only [Act.put, lgA, lgB, lgC, lgD, lgE, lgF]
        refine wpAnyH_ready (rs := [3]) (by kernel_rfl) (by simp) ?_
        refine AllReadyH.cons rfl (fun K hK => ?_) AllReadyH.nil
        go_simp; (refine (l1Below_any _ cb ba bn bc 5 (by omega) (HC.below' hdr (by omega))).mono ?_); rintro e wA ⟨x, rfl, hx0, hx1, hx2, HC2, kA⟩; have tA : Turn cb (cb + 1) w30 wA := (turn_below hdr (Nat.le_refl _)).trans kA.turn; have sA := tA.size; have hbA := hb31.trans tA; have ho2 := ho.turn tA (by omega); have x2 := (tA.cell (p := ⟨w6.heap.size, 0, none⟩) (by simp only []; omega) (by simp only []; omega)).trans X_0; have xf2 := (tA.frozen (p := ⟨w6.heap.size, 0, none⟩) (by simp only []; omega) (by simp only []; omega)).trans X_f0; have r2 := (tA.cell (p := ⟨w.heap.size, 0, none⟩) (by simp only []; omega) (by simp only []; omega)).trans R_0; have rf2 := (tA.frozen (p := ⟨w.heap.size, 0, none⟩) (by simp only []; omega) (by simp only []; omega)).trans R_f0; obtain ⟨kx, rfl⟩ := Int.eq_ofNat_of_zero_le hx0; have hkx : kx < 5 := by { have := hx1 (by omega); omega }; clear hx0 hx1 hx2 kA tA X_0 X_f0 R_0 R_f0 ho HC
        refine hK.out _ _ ?_ (fun hHeld => ?_)
        · exact x2
        clear hK K
        try simp only [Act.put, List.setIfInBounds_toArray, List.set_cons_zero, List.set_cons_succ]
        have hkx5 : (kx : Int) < 5 := by omega
        refine wpAnyH_take (i := 4) (v := ?v4_36) rfl (by kernel_rfl) (by kernel_rfl) (by kernel_rfl) (fun _ _ _ h => h) (Or.inl ⟨by rfl, ?hy4_36⟩) (by assumption) ?rest4_36
        case hy4_36 => intro w hSw; (try dsimp only at hSw); go_simp; (try with_reducible rfl)
        try simp only [Act.put, lgA, lgB, lgC, lgD, lgE, lgF]
        refine wpAnyH_take (i := 5) (v := ?v5_37) rfl (by kernel_rfl) (by kernel_rfl) (by kernel_rfl) (fun _ _ _ h => h) (Or.inl ⟨by rfl, ?hy5_37⟩) (by assumption) ?rest5_37
        case hy5_37 => intro w hSw; (try dsimp only at hSw); go_simp; (try with_reducible rfl)
        try simp only [Act.put, lgA, lgB, lgC, lgD, lgE, lgF]
        obtain ⟨gg, cc, f9, pre, post, E, hga, hg1, hg2, hg3, hrep, hpre, hgc, _, hput⟩ := own_put ho2 (i := kx) (x := ts[kx]) (List.getElem?_eq_getElem (by omega))
        simp only [Option.some.injEq, Addr.mk.injEq] at hga
        obtain ⟨rfl, _, _⟩ := hga
        obtain ⟨c0, d0, p0, q0, rfl, rfl, ⟨rfl, hs0, rfl⟩, ⟨c1, d1, p1, q1, rfl, rfl, ⟨rfl, hs1, rfl⟩, t2⟩⟩ := hrep
        obtain ⟨a2, n2, rfl⟩ := oS_len t2
        replace hpre : pre.length = kx * 3 := hpre
        replace hgc : wA.heap[g]? = some (.cells (pre ++ ([Value.string (ts[kx]).1, Value.int .i64 (ts[kx]).2.1, Value.slice a2 (ts[kx]).2.2.length n2] ++ post)).toArray E) := hgc
        have hfz := at_frozen hgc (kx * 3 + 2)
        have hcl := at_cell hgc hpre (j := 2) rfl
        refine wpAnyH_ready (rs := [6]) (by kernel_rfl) (by simp) ?_
        refine AllReadyH.cons rfl (fun K9 hK9 => ?_) AllReadyH.nil
        go_simp
        obtain ⟨wF, hwF⟩ : ∃ W, W = wA.setCell ⟨g, kx * 3 + 2, none⟩ (.slice none 0 0) := ⟨_, rfl⟩
        rw [← hwF]
        have hgF : wF.heap[g]? = some (.cells (pre ++ ([Value.string (ts[kx]).1, Value.int .i64 (ts[kx]).2.1, Value.slice none 0 0] ++ post)).toArray E) := by rw [hwF]; exact at_set hgc hpre (j := 2) (by simp) _
        have oF := hput wF ((ts[kx]).1, (ts[kx]).2.1, []) [Value.string (ts[kx]).1, Value.int .i64 (ts[kx]).2.1, Value.slice none 0 0] hi6 hi6 (oT_mk (x := ((ts[kx]).1, (ts[kx]).2.1, [])) hs0 hs1 (own_nil_S (B := hi6)) (Nat.le_refl _) (Nat.le_refl _)) (Nat.le_refl _) (Nat.le_refl _) hgF (fun k _ _ hne => by rw [hwF]; exact Below.heap_setCell _ _ _ _ hne)
        have zF : Below (w6.heap.size + 1 + 1) wA wF := by rw [hwF]; exact Below.setCell (Below.refl _ _) (by simp only []; omega) _
        have sF := zF.size
        have hbF := turn_on' hbA (zF.mono (by omega))
        have x4 := bxc zF x2
        have r4 := bxc zF r2
        have rf4 := bxf zF rf2
        have HC4 := HC2.below' zF (by omega)
        clear hwF hput hgc hgF hfz hcl x2 xf2 r2 rf2 HC2 t2
        refine hK9.out _ _ ?_ (fun hHeld => ?_)
        · exact x4
        clear hK9 K9
        try simp only [Act.put, lgA, lgB, lgC, lgD, lgE, lgF]
        refine wpAnyH_done (by kernel_rfl) ?_ _
        refine NoPanic.normal ?_
        obtain ⟨ts2, hts2⟩ : ∃ q, ts.set kx ((ts[kx]).1, (ts[kx]).2.1, []) = q := ⟨_, rfl⟩
        have hts3 : ts2.length = 5 := by rw [← hts2, List.length_set, htl]
        rw [hts2] at oF
        go_wp2_with fail
        refine bodyPost_ret (v := .agg #[.slice (some ⟨g, 0, none⟩) 5 c]) (by simp [results, Tryz.results49, go_sem, r4, rf4]) rfl ⟨g, 5, c, rfl, ts2, hts3, rfl, ?_, ?_, ?_⟩
        · refine Own.mono (lo := w6.heap.size + 1 + 1) (hi := hi6) ?_ (by omega) (by simp [World.setCell]; omega)
          repeat (refine own_off ?_ rfl (by simp only []; omega))
          exact oF
        · refine Cur.below' (C := w.heap.size) HC4 ?_ hcb
          repeat (refine Below.setCell ?_ (by simp only []; omega) _)
          exact Below.refl _ _
        · refine turn_on' hbF ?_
          repeat (refine Below.setCell ?_ (by simp only []; omega) _)
          exact Below.refl _ _

end Go.Proofs.YtpgfkjcekhifiaaGreat

namespace Go.Proofs.YtpgfkjcekhifiaaGreat

open Go.RowKit Go.Sort

set_option linter.unusedVariables false

set_option linter.unusedSimpArgs false

set_option synthInstance.maxSize 2000

set_option synthInstance.maxHeartbeats 400000

def forFrom (db : DDb) : List DA → Bool
  | [] => true
  | a :: t => (look db a.1).isSome && (decide ((lookT (look db a.1)).2.1 = (a.2.length : Int)) && forFrom db t)

def queryFor (db : DDb) (q : DQ) : Bool := validQ q && forFrom db q.2

theorem for_at {db : DDb} {xs : List DA} {j : Nat} {a : DA} (h : xs[j]? = some a) : forFrom db (xs.drop j) = ((look db a.1).isSome && (decide ((lookT (look db a.1)).2.1 = (a.2.length : Int)) && forFrom db (xs.drop (j + 1)))) := by
  rw [drop_at h]; rfl

theorem for_end {db : DDb} {xs : List DA} {j : Nat} (h : xs.length ≤ j) : forFrom db (xs.drop j) = true := by
  rw [List.drop_eq_nil_of_le h]; rfl

theorem cell_box {W : World} {p : Addr} {v : Value} {x : Obj} (h : W.cell? p = some v) : (W.alloc x).cell? p = some v :=
  (((Below.refl W.heap.size W).alloc (Nat.le_refl _) x).cell (cell_lt h)).trans h

theorem cell_setBox {W : World} {p q : Addr} {v u : Value} (h : W.cell? p = some v) (hp : p.block < q.block) : (W.setCell q u).cell? p = some v :=
  ((Below.setCell (Below.refl q.block W) (Nat.le_refl _) u).cell hp).trans h

theorem cell_set3 {W : World} {p : Addr} {v u0 u1 u2 : Value} {g o0 o1 o2 : Nat} (h : W.cell? p = some v) (hp : p.block < g) : (((W.setCell ⟨g, o0, none⟩ u0).setCell ⟨g, o1, none⟩ u1).setCell ⟨g, o2, none⟩ u2).cell? p = some v :=
  cell_setBox (cell_setBox (cell_setBox h hp) hp) hp

set_option maxHeartbeats 2000000 in
theorem queryFor_impl (cs ds : List Value) (db : DDb) (x : DQ) (w : World) (h : rDb.rep w cs db) (h' : rQ.rep w ds x) :
    Calls Tryz.prog 25 #[.agg cs.toArray, .agg ds.toArray] w fun e w' => e = .returned (.bool (queryFor db x)) ∧ Below w.heap.size w w' := by
  obtain ⟨ub, un, uc, rfl, g1⟩ := rDb_open h
  obtain ⟨qb, qn, qc, rfl, hi2, gq⟩ := rQ_open h'
  have hcq := fun W (hW : Below w.heap.size w W) => validQ_impl _ x W (rQ.mono h' hW)
  have hck := fun name W (hW : Below w.heap.size w W) => lookI_any [.slice ub un uc] db name W (rDb.mono h hW)
  obtain ⟨vq, xs⟩ := x
  simp only at hi2 gq hcq
  have t1 := rS_sl gq
  have hl := t1.len
  have hn := t1.small
  obtain ⟨p, hp⟩ : ∃ p, validQ (vq, xs) = p := ⟨_, rfl⟩
  have HV : Hid (queryFor db (vq, xs) = (p && forFrom db (xs.drop 0))) := Lib.hid (by simp [queryFor, hp])
  simp only [hp] at hcq
  have HCQ := Lib.hid hcq
  have HCK := Lib.hid hck
  clear hcq hck h h' g1 gq hi2 hp
  have hb0 : Below w.heap.size w w := Below.refl _ _
  go_enter Tryz.func25, Tryz.ntmps25
  obtain ⟨w1, hw1⟩ : ∃ W, W = w.alloc (.cells #[.slice ub un uc] 26) := ⟨_, rfl⟩
  have z1 : Below w.heap.size w w1 := by rw [hw1]; exact (Below.refl _ _).alloc (Nat.le_refl _) _
  have s1 : w1.heap.size = w.heap.size + 1 := by rw [hw1]; simp
  have hb1 := on hb0 z1
  have b_0 : w1.cell? ⟨w.heap.size, 0, none⟩ = some (.slice ub un uc) := by rw [hw1]; exact box_cell (Below.refl _ _) rfl
  have raw1_b_0 := b_0
  rw [hw1] at raw1_b_0
  obtain ⟨w2, hw2⟩ : ∃ W, W = w1.alloc (.cells #[.int .i64 vq, .slice qb qn qc] 29) := ⟨_, rfl⟩
  have z2 : Below w1.heap.size w1 w2 := by rw [hw2]; exact (Below.refl _ _).alloc (Nat.le_refl _) _
  have s2 : w2.heap.size = w1.heap.size + 1 := by rw [hw2]; simp
  have hb2 := on hb1 z2
  replace b_0 := bxc z2 b_0
  have e2 : w1.heap.size = w.heap.size + 1 := by omega
  have q_0 : w2.cell? ⟨w1.heap.size, 0, none⟩ = some (.int .i64 vq) := by rw [hw2]; exact box_cell (Below.refl _ _) rfl
  have q_1 : w2.cell? ⟨w1.heap.size, 1, none⟩ = some (.slice qb qn qc) := by rw [hw2]; exact box_cell (Below.refl _ _) rfl
  rw [e2] at q_0 q_1
  have raw2_b_0 := b_0
  have raw2_q_0 := q_0
  have raw2_q_1 := q_1
  rw [hw2, hw1] at raw2_b_0 raw2_q_0 raw2_q_1
  go_wp2_with fail
  rw [← hw1]
  rw [← hw2]
  clear hw2 hw1
  clear raw1_b_0 raw2_b_0 raw2_q_0 raw2_q_1
  refine (HCQ.out _ hb2).mono ?_
  rintro e w9 ⟨rfl, z9⟩
  have s3 := z9.size
  have hb3 := on hb2 z9
  replace b_0 := bxc z9 b_0
  replace q_0 := bxc z9 q_0
  replace q_1 := bxc z9 q_1
  cases p with
  | false =>
    go_wp2_with fail
    go_wp2_with fail
    go_ret
    exact ⟨ret_bool (by rw [HV.out]; rfl), hb3⟩
  | true =>
    have HV2 : Hid (queryFor db (vq, xs) = forFrom db (xs.drop 0)) := Lib.hid (by rw [HV.out]; simp)
    clear HV
    go_wp2_with fail
    go_loopw [15] (fun k wr => ∃ j : Nat, j ≤ qn ∧ k = .int .i64 j ∧ Hid (queryFor db (vq, xs) = forFrom db (xs.drop j)) ∧ Below w9.heap.size w9 wr) (fun k _ => qn - (intOf k).toNat)
    case atStart => exact ⟨0, Nat.zero_le _, rfl, HV2.out, Below.refl _ _⟩
    case round =>
      obtain ⟨j, hj, rfl, hE, hdr⟩ := hrel
      have hlc := hdr
      have s4 := hdr.size
      have hb4 := on hb3 hdr
      replace b_0 := bxc hdr b_0
      replace q_0 := bxc hdr q_0
      replace q_1 := bxc hdr q_1
      by_cases hlt : j < qn
      · obtain ⟨b1, o1, cs, a, rfl, hx, hr, hc⟩ := t1.at hlt
        obtain ⟨m1, vs⟩ := a
        obtain ⟨vb, vn, vc, rfl, hs, gv⟩ := rA_open hr
        simp only at hs gv
        have hvl := (rI_ints gv).len
        have hA := @lookT_ar db m1
        have HA := Lib.hid (hE.out.trans (for_at hx.out))
        simp only at HA
        have hc1 := fun W (hW : Below w.heap.size w W) => HCK.out m1 W hW
        obtain ⟨s, hs9⟩ : ∃ s, (look db m1).isSome = s := ⟨_, rfl⟩
        obtain ⟨t, ht⟩ : ∃ t, lookT (look db m1) = t := ⟨_, rfl⟩
        rw [hs9, ht, hvl] at HA
        simp only [hs9, ht] at hc1 hA
        obtain ⟨ns, A, r1⟩ := t
        simp only at hA HA hc1
        have HC1 := Lib.hid hc1
        have e_lt : b1 < w.heap.size := cell_lt (hc 0 _ rfl)
        have e_0 : wr.cell? ⟨b1, o1 + j * 2, none⟩ = some (.string m1) := (hb4.cell (p := ⟨b1, o1 + j * 2, none⟩) e_lt).trans (by have h9 := hc 0 _ rfl; rw [← Nat.add_assoc] at h9; exact h9)
        have e_1 : wr.cell? ⟨b1, o1 + j * 2 + 1, none⟩ = some (.slice vb vn vc) := (hb4.cell (p := ⟨b1, o1 + j * 2 + 1, none⟩) e_lt).trans (by have h9 := hc 1 _ rfl; rw [← Nat.add_assoc] at h9; exact h9)
        clear hc hx hr gv hvl hs hs9 ht hc1 hE
        obtain ⟨w5, hw5⟩ : ∃ W, W = wr.alloc (.cells #[.string m1, .slice vb vn vc] 48) := ⟨_, rfl⟩
        have z5 : Below wr.heap.size wr w5 := by rw [hw5]; exact (Below.refl _ _).alloc (Nat.le_refl _) _
        have s5 : w5.heap.size = wr.heap.size + 1 := by rw [hw5]; simp
        have hb5 := on hb4 z5
        have old5_b_0 := b_0
        have old5_q_0 := q_0
        have old5_q_1 := q_1
        have old5_e_0 := e_0
        have old5_e_1 := e_1
        replace b_0 := bxc z5 b_0
        replace q_0 := bxc z5 q_0
        replace q_1 := bxc z5 q_1
        replace hlc := on hlc z5
        replace e_0 := bxc z5 e_0
        replace e_1 := bxc z5 e_1
        have ab_0 : w5.cell? ⟨wr.heap.size, 0, none⟩ = some (.string m1) := by rw [hw5]; exact box_cell (Below.refl _ _) rfl
        have ab_1 : w5.cell? ⟨wr.heap.size, 1, none⟩ = some (.slice vb vn vc) := by rw [hw5]; exact box_cell (Below.refl _ _) rfl
        have raw5_b_0 := b_0
        have raw5_q_0 := q_0
        have raw5_q_1 := q_1
        have raw5_e_0 := e_0
        have raw5_e_1 := e_1
        have raw5_ab_0 := ab_0
        have raw5_ab_1 := ab_1
        rw [hw5] at raw5_b_0 raw5_q_0 raw5_q_1 raw5_e_0 raw5_e_1 raw5_ab_0 raw5_ab_1
        go_wp2_with fail
        rw [← hw5]
        clear hw5
        clear old5_b_0 old5_q_0 old5_q_1 old5_e_0 old5_e_1 raw5_b_0 raw5_q_0 raw5_q_1 raw5_e_0 raw5_e_1 raw5_ab_0 raw5_ab_1
        refine (HC1.out _ hb5).mono ?_
        rintro e w10 ⟨vb', vn', vc', rfl, _, z10⟩
        have s6 := z10.size
        have hb6 := on hb5 z10
        replace b_0 := bxc z10 b_0
        replace q_0 := bxc z10 q_0
        replace q_1 := bxc z10 q_1
        replace hlc := on hlc z10
        replace e_0 := bxc z10 e_0
        replace e_1 := bxc z10 e_1
        replace ab_0 := bxc z10 ab_0
        replace ab_1 := bxc z10 ab_1
        obtain ⟨w7, hw7⟩ : ∃ W, W = w10.alloc (.cells #[.string ns, .int .i64 A, .slice vb' vn' vc'] 44) := ⟨_, rfl⟩
        have z7 : Below w10.heap.size w10 w7 := by rw [hw7]; exact (Below.refl _ _).alloc (Nat.le_refl _) _
        have s7 : w7.heap.size = w10.heap.size + 1 := by rw [hw7]; simp
        have hb7 := on hb6 z7
        have old7_b_0 := b_0
        have old7_q_0 := q_0
        have old7_q_1 := q_1
        have old7_e_0 := e_0
        have old7_e_1 := e_1
        have old7_ab_0 := ab_0
        have old7_ab_1 := ab_1
        replace b_0 := bxc z7 b_0
        replace q_0 := bxc z7 q_0
        replace q_1 := bxc z7 q_1
        replace hlc := on hlc z7
        replace e_0 := bxc z7 e_0
        replace e_1 := bxc z7 e_1
        replace ab_0 := bxc z7 ab_0
        replace ab_1 := bxc z7 ab_1
        have t_0 : w7.cell? ⟨w10.heap.size, 0, none⟩ = some (.string ns) := by rw [hw7]; exact box_cell (Below.refl _ _) rfl
        have t_1 : w7.cell? ⟨w10.heap.size, 1, none⟩ = some (.int .i64 A) := by rw [hw7]; exact box_cell (Below.refl _ _) rfl
        have t_2 : w7.cell? ⟨w10.heap.size, 2, none⟩ = some (.slice vb' vn' vc') := by rw [hw7]; exact box_cell (Below.refl _ _) rfl
        have raw7_b_0 := b_0
        have raw7_q_0 := q_0
        have raw7_q_1 := q_1
        have raw7_e_0 := e_0
        have raw7_e_1 := e_1
        have raw7_ab_0 := ab_0
        have raw7_ab_1 := ab_1
        have raw7_t_0 := t_0
        have raw7_t_1 := t_1
        have raw7_t_2 := t_2
        rw [hw7] at raw7_b_0 raw7_q_0 raw7_q_1 raw7_e_0 raw7_e_1 raw7_ab_0 raw7_ab_1 raw7_t_0 raw7_t_1 raw7_t_2
        cases s with
        | false =>
          go_wp2_with fail
          rw [← hw7]
          clear hw7
          clear old7_b_0 old7_q_0 old7_q_1 old7_e_0 old7_e_1 old7_ab_0 old7_ab_1 raw7_b_0 raw7_q_0 raw7_q_1 raw7_e_0 raw7_e_1 raw7_ab_0 raw7_ab_1 raw7_t_0 raw7_t_1 raw7_t_2
          go_wp2_with fail
          go_ret
          exact ⟨ret_bool (by rw [HA.out]; rfl), hb7⟩
        | true =>
          by_cases hd : A = (vn : Int)
          · have hd2 : (A == (vn : Int)) = true := by rw [beq_iff_eq]; exact hd
            have HE : Hid (queryFor db (vq, xs) = forFrom db (xs.drop (j + 1))) := Lib.hid (by rw [HA.out, decide_eq_true hd]; simp)
            clear hd HA
            go_wp2_with fail
            rw [← hw7]
            clear hw7
            clear old7_b_0 old7_q_0 old7_q_1 old7_e_0 old7_e_1 old7_ab_0 old7_ab_1 raw7_b_0 raw7_q_0 raw7_q_1 raw7_e_0 raw7_e_1 raw7_ab_0 raw7_ab_1 raw7_t_0 raw7_t_1 raw7_t_2
            go_roundw
            case rel => exact ⟨j + 1, by omega, by go_num, HE.out, hlc⟩
            case measure => simp [intOf]; omega
          · have HE : Hid (queryFor db (vq, xs) = false) := Lib.hid (by rw [HA.out, decide_eq_false hd]; simp)
            have hd2 : (A == (vn : Int)) = false := by rw [beq_eq_false_iff_ne]; exact hd
            go_wp2_with fail
            rw [← hw7]
            clear hw7
            clear old7_b_0 old7_q_0 old7_q_1 old7_e_0 old7_e_1 old7_ab_0 old7_ab_1 raw7_b_0 raw7_q_0 raw7_q_1 raw7_e_0 raw7_e_1 raw7_ab_0 raw7_ab_1 raw7_t_0 raw7_t_1 raw7_t_2
            go_wp2_with fail
            go_ret
            exact ⟨ret_bool HE.out.symm, hb7⟩
      · have HE : Hid (queryFor db (vq, xs) = true) := Lib.hid (by rw [hE.out, for_end (by omega)])
        clear hE t1 hl
        go_wp2_with fail
        go_ret
        exact ⟨ret_bool HE.out.symm, hb4⟩

set_option maxHeartbeats 2000000 in
theorem queryFor_spec (cs ds : List Value) (db : DDb) (x : DQ) (w : World) (h : rDb.rep w cs db) (h' : rQ.rep w ds x) :
    Calls Tryz.prog 29 #[.agg cs.toArray, .agg ds.toArray] w fun e w' => e = .returned (.bool (queryFor db x)) ∧ Below w.heap.size w w' := by
  obtain ⟨ub, un, uc, rfl, g1⟩ := rDb_open h
  obtain ⟨qb, qn, qc, rfl, hi2, gq⟩ := rQ_open h'
  have hcq := fun W (hW : Below w.heap.size w W) => validQ_spec _ x W (rQ.mono h' hW)
  have hck := fun name W (hW : Below w.heap.size w W) => lookS_any [.slice ub un uc] db name W (rDb.mono h hW)
  obtain ⟨vq, xs⟩ := x
  simp only at hi2 gq hcq
  have t1 := rS_sl gq
  have hl := t1.len
  have hn := t1.small
  obtain ⟨p, hp⟩ : ∃ p, validQ (vq, xs) = p := ⟨_, rfl⟩
  have HV : Hid (queryFor db (vq, xs) = (p && forFrom db (xs.drop 0))) := Lib.hid (by simp [queryFor, hp])
  simp only [hp] at hcq
  have HCQ := Lib.hid hcq
  have HCK := Lib.hid hck
  clear hcq hck h h' g1 gq hi2 hp
  have hb0 : Below w.heap.size w w := Below.refl _ _
  go_enter Tryz.func29, Tryz.ntmps29
  obtain ⟨w1, hw1⟩ : ∃ W, W = w.alloc (.cells #[.slice ub un uc] 26) := ⟨_, rfl⟩
  have z1 : Below w.heap.size w w1 := by rw [hw1]; exact (Below.refl _ _).alloc (Nat.le_refl _) _
  have s1 : w1.heap.size = w.heap.size + 1 := by rw [hw1]; simp
  have hb1 := on hb0 z1
  have b_0 : w1.cell? ⟨w.heap.size, 0, none⟩ = some (.slice ub un uc) := by rw [hw1]; exact box_cell (Below.refl _ _) rfl
  have raw1_b_0 := b_0
  rw [hw1] at raw1_b_0
  obtain ⟨w2, hw2⟩ : ∃ W, W = w1.alloc (.cells #[.int .i64 vq, .slice qb qn qc] 29) := ⟨_, rfl⟩
  have z2 : Below w1.heap.size w1 w2 := by rw [hw2]; exact (Below.refl _ _).alloc (Nat.le_refl _) _
  have s2 : w2.heap.size = w1.heap.size + 1 := by rw [hw2]; simp
  have hb2 := on hb1 z2
  replace b_0 := bxc z2 b_0
  have e2 : w1.heap.size = w.heap.size + 1 := by omega
  have q_0 : w2.cell? ⟨w1.heap.size, 0, none⟩ = some (.int .i64 vq) := by rw [hw2]; exact box_cell (Below.refl _ _) rfl
  have q_1 : w2.cell? ⟨w1.heap.size, 1, none⟩ = some (.slice qb qn qc) := by rw [hw2]; exact box_cell (Below.refl _ _) rfl
  rw [e2] at q_0 q_1
  have raw2_b_0 := b_0
  have raw2_q_0 := q_0
  have raw2_q_1 := q_1
  rw [hw2, hw1] at raw2_b_0 raw2_q_0 raw2_q_1
  go_wp2_with fail
  rw [← hw1]
  rw [← hw2]
  clear hw2 hw1
  clear raw1_b_0 raw2_b_0 raw2_q_0 raw2_q_1
  refine (HCQ.out _ hb2).mono ?_
  rintro e w9 ⟨rfl, z9⟩
  have s3 := z9.size
  have hb3 := on hb2 z9
  replace b_0 := bxc z9 b_0
  replace q_0 := bxc z9 q_0
  replace q_1 := bxc z9 q_1
  cases p with
  | false =>
    go_wp2_with fail
    go_wp2_with fail
    go_ret
    exact ⟨ret_bool (by rw [HV.out]; rfl), hb3⟩
  | true =>
    have HV2 : Hid (queryFor db (vq, xs) = forFrom db (xs.drop 0)) := Lib.hid (by rw [HV.out]; simp)
    clear HV
    go_wp2_with fail
    go_loopw [5] (fun k wr => ∃ j : Nat, j ≤ qn ∧ k = .int .i64 j ∧ Hid (queryFor db (vq, xs) = forFrom db (xs.drop j)) ∧ Below w9.heap.size w9 wr) (fun k _ => qn - (intOf k).toNat)
    case atStart => exact ⟨0, Nat.zero_le _, rfl, HV2.out, Below.refl _ _⟩
    case round =>
      obtain ⟨j, hj, rfl, hE, hdr⟩ := hrel
      have hlc := hdr
      have s4 := hdr.size
      have hb4 := on hb3 hdr
      replace b_0 := bxc hdr b_0
      replace q_0 := bxc hdr q_0
      replace q_1 := bxc hdr q_1
      by_cases hlt : j < qn
      · obtain ⟨b1, o1, cs, a, rfl, hx, hr, hc⟩ := t1.at hlt
        obtain ⟨m1, vs⟩ := a
        obtain ⟨vb, vn, vc, rfl, hs, gv⟩ := rA_open hr
        simp only at hs gv
        have hvl := (rI_ints gv).len
        have hA := @lookT_ar db m1
        have HA := Lib.hid (hE.out.trans (for_at hx.out))
        simp only at HA
        have hc1 := fun W (hW : Below w.heap.size w W) => HCK.out m1 W hW
        obtain ⟨s, hs9⟩ : ∃ s, (look db m1).isSome = s := ⟨_, rfl⟩
        obtain ⟨t, ht⟩ : ∃ t, lookT (look db m1) = t := ⟨_, rfl⟩
        rw [hs9, ht, hvl] at HA
        simp only [hs9, ht] at hc1 hA
        obtain ⟨ns, A, r1⟩ := t
        simp only at hA HA hc1
        have HC1 := Lib.hid hc1
        have e_lt : b1 < w.heap.size := cell_lt (hc 0 _ rfl)
        have e_0 : wr.cell? ⟨b1, o1 + j * 2, none⟩ = some (.string m1) := (hb4.cell (p := ⟨b1, o1 + j * 2, none⟩) e_lt).trans (by have h9 := hc 0 _ rfl; rw [← Nat.add_assoc] at h9; exact h9)
        have e_1 : wr.cell? ⟨b1, o1 + j * 2 + 1, none⟩ = some (.slice vb vn vc) := (hb4.cell (p := ⟨b1, o1 + j * 2 + 1, none⟩) e_lt).trans (by have h9 := hc 1 _ rfl; rw [← Nat.add_assoc] at h9; exact h9)
        clear hc hx hr gv hvl hs hs9 ht hc1 hE
        have hbd := (hb4).drew
        have hsz : wr.drew.heap.size = wr.heap.size := rfl
        have hbn : Below w.heap.size w (wr.alloc (.cells #[.string ⟨#[]⟩, .int .i64 0, .slice none 0 0] 44)).drew := ((hb4).alloc (by omega) _).drew
        have hsn : (wr.alloc (.cells #[.string ⟨#[]⟩, .int .i64 0, .slice none 0 0] 44)).drew.heap.size = wr.heap.size + 1 := by show (wr.alloc _).heap.size = _; simp
        have n_0 : (wr.alloc (.cells #[.string ⟨#[]⟩, .int .i64 0, .slice none 0 0] 44)).drew.cell? ⟨wr.heap.size, 0, none⟩ = some (.string ⟨#[]⟩) := box_cell (cs := #[.string ⟨#[]⟩, .int .i64 0, .slice none 0 0]) (T := 44) (i := 0) (Below.refl _ _).drew rfl
        have n_1 : (wr.alloc (.cells #[.string ⟨#[]⟩, .int .i64 0, .slice none 0 0] 44)).drew.cell? ⟨wr.heap.size, 1, none⟩ = some (.int .i64 0) := box_cell (cs := #[.string ⟨#[]⟩, .int .i64 0, .slice none 0 0]) (T := 44) (i := 1) (Below.refl _ _).drew rfl
        have n_2 : (wr.alloc (.cells #[.string ⟨#[]⟩, .int .i64 0, .slice none 0 0] 44)).drew.cell? ⟨wr.heap.size, 2, none⟩ = some (.slice none 0 0) := box_cell (cs := #[.string ⟨#[]⟩, .int .i64 0, .slice none 0 0]) (T := 44) (i := 2) (Below.refl _ _).drew rfl
        have f_0 : (wr.alloc (.cells #[.string ⟨#[]⟩, .int .i64 0, .slice none 0 0] 44)).drew.frozen? ⟨wr.heap.size, 0, none⟩ = false := box_frozen (cs := #[.string ⟨#[]⟩, .int .i64 0, .slice none 0 0]) (T := 44) (Below.refl _ _).drew
        have f_1 : (wr.alloc (.cells #[.string ⟨#[]⟩, .int .i64 0, .slice none 0 0] 44)).drew.frozen? ⟨wr.heap.size, 1, none⟩ = false := box_frozen (cs := #[.string ⟨#[]⟩, .int .i64 0, .slice none 0 0]) (T := 44) (Below.refl _ _).drew
        have f_2 : (wr.alloc (.cells #[.string ⟨#[]⟩, .int .i64 0, .slice none 0 0] 44)).drew.frozen? ⟨wr.heap.size, 2, none⟩ = false := box_frozen (cs := #[.string ⟨#[]⟩, .int .i64 0, .slice none 0 0]) (T := 44) (Below.refl _ _).drew
        have k_b_0 : (wr.alloc (.cells #[.string ⟨#[]⟩, .int .i64 0, .slice none 0 0] 44)).drew.cell? ⟨w.heap.size, 0, none⟩ = some (.slice ub un uc) := cell_box b_0
        have k_q_1 : (wr.alloc (.cells #[.string ⟨#[]⟩, .int .i64 0, .slice none 0 0] 44)).drew.cell? ⟨w.heap.size + 1, 1, none⟩ = some (.slice (some ⟨b1, o1, none⟩) qn qc) := cell_box q_1
        have k_e_0 : (wr.alloc (.cells #[.string ⟨#[]⟩, .int .i64 0, .slice none 0 0] 44)).drew.cell? ⟨b1, o1 + j * 2, none⟩ = some (.string m1) := cell_box e_0
        have k_e_1 : (wr.alloc (.cells #[.string ⟨#[]⟩, .int .i64 0, .slice none 0 0] 44)).drew.cell? ⟨b1, o1 + j * 2 + 1, none⟩ = some (.slice vb vn vc) := cell_box e_1
        go_wp2_with fail
        go_region_held3 (fun W => W.cell? ⟨w.heap.size, 0, none⟩ = some (.slice ub un uc) ∧ W.cell? ⟨w.heap.size + 1, 1, none⟩ = some (.slice (some ⟨b1, o1, none⟩) qn qc) ∧ W.cell? ⟨b1, o1 + j * 2, none⟩ = some (.string m1) ∧ W.cell? ⟨b1, o1 + j * 2 + 1, none⟩ = some (.slice vb vn vc)) (first | exact ⟨b_0, q_1, e_0, e_1⟩ | assumption | (go_split_ands; (first | exact ⟨cell_box (by assumption), cell_box (by assumption), cell_box (by assumption), cell_box (by assumption)⟩ | exact ⟨cell_set3 (by assumption) (by simp only []; omega), cell_set3 (by assumption) (by simp only []; omega), cell_set3 (by assumption) (by simp only []; omega), cell_set3 (by assumption) (by simp only []; omega)⟩))) (first | (go_at_call 15; (with_reducible refine (HC1.out _ hbd).mono ?_); rintro e w10 ⟨vb', vn', vc', rfl, _, z10⟩; have hS10 := (⟨(z10.cell (p := ⟨w.heap.size, 0, none⟩) (by simp only []; omega)).trans b_0, (z10.cell (p := ⟨w.heap.size + 1, 1, none⟩) (by simp only []; omega)).trans q_1, (z10.cell (p := ⟨b1, o1 + j * 2, none⟩) (by simp only []; omega)).trans e_0, (z10.cell (p := ⟨b1, o1 + j * 2 + 1, none⟩) (by simp only []; omega)).trans e_1⟩ : (fun W => W.cell? ⟨w.heap.size, 0, none⟩ = some (.slice ub un uc) ∧ W.cell? ⟨w.heap.size + 1, 1, none⟩ = some (.slice (some ⟨b1, o1, none⟩) qn qc) ∧ W.cell? ⟨b1, o1 + j * 2, none⟩ = some (.string m1) ∧ W.cell? ⟨b1, o1 + j * 2 + 1, none⟩ = some (.slice vb vn vc)) w10); have hz10 := z10.size) | (go_at_call 15; (with_reducible refine (HC1.out _ hbn).mono ?_); rintro e w10 ⟨vb', vn', vc', rfl, _, z10⟩; have hS10 := (⟨(z10.cell (p := ⟨w.heap.size, 0, none⟩) (by simp only []; omega)).trans k_b_0, (z10.cell (p := ⟨w.heap.size + 1, 1, none⟩) (by simp only []; omega)).trans k_q_1, (z10.cell (p := ⟨b1, o1 + j * 2, none⟩) (by simp only []; omega)).trans k_e_0, (z10.cell (p := ⟨b1, o1 + j * 2 + 1, none⟩) (by simp only []; omega)).trans k_e_1⟩ : (fun W => W.cell? ⟨w.heap.size, 0, none⟩ = some (.slice ub un uc) ∧ W.cell? ⟨w.heap.size + 1, 1, none⟩ = some (.slice (some ⟨b1, o1, none⟩) qn qc) ∧ W.cell? ⟨b1, o1 + j * 2, none⟩ = some (.string m1) ∧ W.cell? ⟨b1, o1 + j * 2 + 1, none⟩ = some (.slice vb vn vc)) w10); have hz10 := z10.size; replace n_0 := (z10.cell (p := ⟨wr.heap.size, 0, none⟩) (by simp only []; omega)).trans n_0; replace n_1 := (z10.cell (p := ⟨wr.heap.size, 1, none⟩) (by simp only []; omega)).trans n_1; replace n_2 := (z10.cell (p := ⟨wr.heap.size, 2, none⟩) (by simp only []; omega)).trans n_2; replace f_0 := (z10.frozen (p := ⟨wr.heap.size, 0, none⟩) (by simp only []; omega)).trans f_0; replace f_1 := (z10.frozen (p := ⟨wr.heap.size, 1, none⟩) (by simp only []; omega)).trans f_1; replace f_2 := (z10.frozen (p := ⟨wr.heap.size, 2, none⟩) (by simp only []; omega)).trans f_2))
        · obtain ⟨Wf, hW⟩ : ∃ W, W = w10.alloc (.cells #[.string ns, .int .i64 A, .slice vb' vn' vc'] 44) := ⟨_, rfl⟩
          have hbf : Below w.heap.size w Wf := by rw [hW]; exact (on hbd z10).alloc (by omega) _
          have hlf : Below w9.heap.size w9 Wf := by rw [hW]; exact (on hlc.drew z10).alloc (by have h9 := hlc.size; omega) _
          have t_1 : Wf.cell? ⟨w10.heap.size, 1, none⟩ = some (.int .i64 A) := by rw [hW]; exact box_cell (i := 1) (Below.refl _ _) rfl
          have x_1 : Wf.cell? ⟨w.heap.size + 1, 1, none⟩ = some (.slice (some ⟨b1, o1, none⟩) qn qc) := by rw [hW]; exact cell_box hS10.2.1
          have x_2 : Wf.cell? ⟨b1, o1 + j * 2 + 1, none⟩ = some (.slice vb vn vc) := by rw [hW]; exact cell_box hS10.2.2.2
          rw [← hW]
          clear hS10 n_0 n_1 n_2 f_0 f_1 f_2 k_b_0 k_q_1 k_e_0 k_e_1 hW z10 hbn hbd hz10
          cases s with
          | false =>
            go_wp2_with fail
            go_quiet (fail)
            go_wp2_with fail
            go_ret
            exact ⟨ret_bool (by rw [HA.out]; rfl), onD hbf ⟨_, rfl⟩⟩
          | true =>
            by_cases hd : A = (vn : Int)
            · have hd2 : (A == (vn : Int)) = true := by rw [beq_iff_eq]; exact hd
              have HE : Hid (queryFor db (vq, xs) = forFrom db (xs.drop (j + 1))) := Lib.hid (by rw [HA.out, decide_eq_true hd]; simp)
              clear hd HA
              go_wp2_with fail
              go_quiet (fail)
              go_wp2_with fail
              go_roundw
              case rel => exact ⟨j + 1, by omega, by go_num, HE.out, onD hlf ⟨_, rfl⟩⟩
              case measure => simp [intOf]; omega
            · have HE : Hid (queryFor db (vq, xs) = false) := Lib.hid (by rw [HA.out, decide_eq_false hd]; simp)
              have hd2 : (A == (vn : Int)) = false := by rw [beq_eq_false_iff_ne]; exact hd
              go_wp2_with fail
              go_quiet (fail)
              go_wp2_with fail
              go_ret
              exact ⟨ret_bool HE.out.symm, onD hbf ⟨_, rfl⟩⟩
        · obtain ⟨Wf, hW⟩ : ∃ W, W = ((w10.setCell ⟨wr.heap.size, 0, none⟩ (.string ns)).setCell ⟨wr.heap.size, 1, none⟩ (.int .i64 A)).setCell ⟨wr.heap.size, 2, none⟩ (.slice vb' vn' vc') := ⟨_, rfl⟩
          have hbf : Below w.heap.size w Wf := by
            rw [hW]
            exact (((on hbn z10).setCell (by simp only []; omega) _).setCell (by simp only []; omega) _).setCell (by simp only []; omega) _
          have hlf : Below w9.heap.size w9 Wf := by
            have h9 := hlc.size
            rw [hW]
            exact (((on ((hlc.alloc (by omega) _).drew) z10).setCell (by simp only []; omega) _).setCell (by simp only []; omega) _).setCell (by simp only []; omega) _
          have t_1 : Wf.cell? ⟨wr.heap.size, 1, none⟩ = some (.int .i64 A) := by rw [hW]; simp [n_1, go_sem]
          have x_1 : Wf.cell? ⟨w.heap.size + 1, 1, none⟩ = some (.slice (some ⟨b1, o1, none⟩) qn qc) := by rw [hW]; exact cell_set3 hS10.2.1 (by simp only []; omega)
          have x_2 : Wf.cell? ⟨b1, o1 + j * 2 + 1, none⟩ = some (.slice vb vn vc) := by rw [hW]; exact cell_set3 hS10.2.2.2 (by simp only []; omega)
          rw [← hW]
          clear hS10 n_0 n_1 n_2 f_0 f_1 f_2 k_b_0 k_q_1 k_e_0 k_e_1 hW z10 hbn hbd hz10
          cases s with
          | false =>
            go_wp2_with fail
            go_quiet (fail)
            go_wp2_with fail
            go_ret
            exact ⟨ret_bool (by rw [HA.out]; rfl), onD hbf ⟨_, rfl⟩⟩
          | true =>
            by_cases hd : A = (vn : Int)
            · have hd2 : (A == (vn : Int)) = true := by rw [beq_iff_eq]; exact hd
              have HE : Hid (queryFor db (vq, xs) = forFrom db (xs.drop (j + 1))) := Lib.hid (by rw [HA.out, decide_eq_true hd]; simp)
              clear hd HA
              go_wp2_with fail
              go_quiet (fail)
              go_wp2_with fail
              go_roundw
              case rel => exact ⟨j + 1, by omega, by go_num, HE.out, onD hlf ⟨_, rfl⟩⟩
              case measure => simp [intOf]; omega
            · have HE : Hid (queryFor db (vq, xs) = false) := Lib.hid (by rw [HA.out, decide_eq_false hd]; simp)
              have hd2 : (A == (vn : Int)) = false := by rw [beq_eq_false_iff_ne]; exact hd
              go_wp2_with fail
              go_quiet (fail)
              go_wp2_with fail
              go_ret
              exact ⟨ret_bool HE.out.symm, onD hbf ⟨_, rfl⟩⟩
      · have HE : Hid (queryFor db (vq, xs) = true) := Lib.hid (by rw [hE.out, for_end (by omega)])
        clear hE t1 hl
        go_wp2_with fail
        go_ret
        exact ⟨ret_bool HE.out.symm, hb4⟩

end Go.Proofs.YtpgfkjcekhifiaaGreat

namespace Go.Proofs.YtpgfkjcekhifiaaGreat

open Go.RowKit

set_option linter.unusedVariables false

set_option linter.unusedSimpArgs false

set_option synthInstance.maxSize 2000

set_option synthInstance.maxHeartbeats 400000

theorem oTl_cap {lo hi : Nat} {w : World} {b : Option Addr} {n c : Nat} {xs : List DT} (h : Own oTl lo hi w [.slice b n c] xs) : n = xs.length ∧ n ≤ c ∧ c ≤ 9223372036854775807 ∧ True := by
  obtain ⟨a, m, d, e, h1, h2, hs⟩ := h.rd reads_Tl
  simp only [List.cons.injEq, and_true, Value.slice.injEq] at e
  obtain ⟨rfl, rfl, rfl⟩ := e
  exact ⟨hs.len.symm, h1, h2, trivial⟩

set_option maxRecDepth 100000 in
set_option maxHeartbeats 8000000 in
theorem l5Any_any (w : World) (cb : Nat) (ba : Option Addr) (bn bc : Nat) (HC : Cur w cb ba bn bc) (hcb : cb < w.heap.size) :
    Calls Tryz.prog 53 #[.pointer (some ⟨cb, 0, none⟩)] w fun e w' => ∃ (b : Option Addr) (n c : Nat) (db : List DT), e = .returned (.agg #[.slice b n c]) ∧ DrawnDb w.heap.size w'.heap.size w' b n c db ∧ Cur w' cb ba bn bc ∧ Turn cb (cb + 1) w w' := by
  have ht0 : Turn cb (cb + 1) w w := (Kept.refl cb (cb + 1) w).turn
  go_enter Tryz.func53, Tryz.ntmps53
  obtain ⟨w1, hw1⟩ : ∃ W, W = w.alloc (.cells #[.slice none 0 0] 26) := ⟨_, rfl⟩
  have z1 : Below w.heap.size w w1 := by rw [hw1]; exact (Below.refl _ _).alloc (Nat.le_refl _) _
  have s1 : w1.heap.size = w.heap.size + 1 := by rw [hw1]; simp
  have hb1 := turn_on' ht0 (z1.mono (by omega))
  replace HC := HC.below' z1 (by omega)
  have R_0 : w1.cell? ⟨w.heap.size, 0, none⟩ = some (.slice none 0 0) := by rw [hw1]; exact box_cell (Below.refl _ _) rfl
  have R_f0 : w1.frozen? ⟨w.heap.size, 0, none⟩ = false := by rw [hw1]; exact box_frozen (Below.refl _ _)
  have raw1_R_0 := R_0
  have raw1_R_f0 := R_f0
  rw [hw1] at raw1_R_0 raw1_R_f0
  go_wp2_with fail
  rw [← hw1]
  clear hw1
  clear raw1_R_0 raw1_R_f0
  obtain ⟨lo4, hlo4⟩ : ∃ q, q = w1.heap.size := ⟨_, rfl⟩
  have HC_o := HC
  clear HC
  refine (l5Db_any _ cb ba bn bc HC_o (by omega)).mono ?_
  rintro e w2 ⟨g, n, c, ts, rfl, htl, rfl, ho, HC, z2⟩
  clear HC_o
  have s3 := z2.size
  have hb3 := hb1.trans z2
  replace R_0 := txc z2 R_0
  replace R_f0 := txf z2 R_f0
  rw [← hlo4] at ho
  obtain ⟨hi5, hhi5⟩ : ∃ q, q = w2.heap.size := ⟨_, rfl⟩
  rw [← hhi5] at ho
  have hlh : w.heap.size + 1 ≤ lo4 ∧ cb + 1 ≤ lo4 := by omega
  have hlh2 : lo4 ≤ hi5 := by omega
  obtain ⟨w4, hw4⟩ : ∃ W, W = w2.alloc (.cells #[.slice (some ⟨g, 0, none⟩) 5 c] 26) := ⟨_, rfl⟩
  have z4 : Below w2.heap.size w2 w4 := by rw [hw4]; exact (Below.refl _ _).alloc (Nat.le_refl _) _
  have s4 : w4.heap.size = w2.heap.size + 1 := by rw [hw4]; simp
  have hb4 := turn_on' hb3 (z4.mono (by omega))
  have old4_R_0 := R_0
  replace HC := HC.below' z4 (by omega)
  replace R_0 := bxc z4 R_0
  replace R_f0 := bxf z4 R_f0
  replace ho := ho.below z4 (by omega)
  have X_0 : w4.cell? ⟨w2.heap.size, 0, none⟩ = some (.slice (some ⟨g, 0, none⟩) 5 c) := by rw [hw4]; exact box_cell (Below.refl _ _) rfl
  have X_f0 : w4.frozen? ⟨w2.heap.size, 0, none⟩ = false := by rw [hw4]; exact box_frozen (Below.refl _ _)
  have raw4_R_0 := R_0
  have raw4_R_f0 := R_f0
  have raw4_X_0 := X_0
  have raw4_X_f0 := X_f0
  rw [hw4] at raw4_R_0 raw4_R_f0 raw4_X_0 raw4_X_f0
  go_wp2_with fail
  rw [← hw4]
  clear hw4
  clear old4_R_0 raw4_R_0 raw4_R_f0 raw4_X_0 raw4_X_f0
  have HC_o := HC
  clear HC
  refine (l1Below_any _ cb ba bn bc 10 (by omega) HC_o).mono ?_
  rintro e w5 ⟨k1, rfl, hq0, hq1, hq2, HC, z5⟩
  clear HC_o
  have s6 := Nat.le_of_eq z5.size
  have s6' := Nat.le_of_eq z5.size.symm
  replace z5 := z5.turn
  have hb6 := hb4.trans z5
  replace R_0 := txc z5 R_0
  replace R_f0 := txf z5 R_f0
  replace ho := ho.turn z5 (by omega)
  replace X_0 := txc z5 X_0
  replace X_f0 := txf z5 X_f0
  clear hq0 hq1 hq2
  by_cases a0 : k1 = 0
  · subst a0
    go_wp2_with fail
    obtain ⟨lo7, hlo7⟩ : ∃ q, q = w5.heap.size := ⟨_, rfl⟩
    have HC_o := HC
    clear HC
    refine (l4Any_any _ cb ba bn bc HC_o (by omega)).mono ?_
    rintro e w7 ⟨nm, A, b2, n2, c2, rows2, rfl, hns, hA1, hA2, ho2, hrl2, hrr2, HC, z7⟩
    clear HC_o
    have s8 := z7.size
    have hb8 := hb6.trans z7
    replace R_0 := txc z7 R_0
    replace R_f0 := txf z7 R_f0
    replace ho := ho.turn z7 (by omega)
    replace X_0 := txc z7 X_0
    replace X_f0 := txf z7 X_f0
    rw [← hlo7] at ho2
    obtain ⟨hi7, hhi7⟩ : ∃ q, q = w7.heap.size := ⟨_, rfl⟩
    rw [← hhi7] at ho2
    have hl7 : hi5 ≤ lo7 ∧ lo7 ≤ hi7 := by omega
    clear hrr2
    obtain ⟨w9, hw9⟩ : ∃ W, W = w7.alloc (.cells #[.string nm, .int .i64 A, .slice b2 n2 c2] 44) := ⟨_, rfl⟩
    have z9 : Below w7.heap.size w7 w9 := by rw [hw9]; exact (Below.refl _ _).alloc (Nat.le_refl _) _
    have s9 : w9.heap.size = w7.heap.size + 1 := by rw [hw9]; simp
    have hb9 := turn_on' hb8 (z9.mono (by omega))
    have old9_R_0 := R_0
    have old9_X_0 := X_0
    replace HC := HC.below' z9 (by omega)
    replace R_0 := bxc z9 R_0
    replace R_f0 := bxf z9 R_f0
    replace ho := ho.below z9 (by omega)
    replace X_0 := bxc z9 X_0
    replace X_f0 := bxf z9 X_f0
    replace ho2 := ho2.below z9 (by omega)
    have T_0 : w9.cell? ⟨w7.heap.size, 0, none⟩ = some (.string nm) := by rw [hw9]; exact box_cell (Below.refl _ _) rfl
    have T_1 : w9.cell? ⟨w7.heap.size, 1, none⟩ = some (.int .i64 A) := by rw [hw9]; exact box_cell (Below.refl _ _) rfl
    have T_2 : w9.cell? ⟨w7.heap.size, 2, none⟩ = some (.slice b2 n2 c2) := by rw [hw9]; exact box_cell (Below.refl _ _) rfl
    have raw9_R_0 := R_0
    have raw9_R_f0 := R_f0
    have raw9_X_0 := X_0
    have raw9_X_f0 := X_f0
    have raw9_T_0 := T_0
    have raw9_T_1 := T_1
    have raw9_T_2 := T_2
    rw [hw9] at raw9_R_0 raw9_R_f0 raw9_X_0 raw9_X_f0 raw9_T_0 raw9_T_1 raw9_T_2
    go_wp2_with fail
    rw [← hw9]
    clear hw9
    clear old9_R_0 old9_X_0 raw9_R_0 raw9_R_f0 raw9_X_0 raw9_X_f0 raw9_T_0 raw9_T_1 raw9_T_2
    have hdr : Below w9.heap.size w9 w9.drew := (Below.refl _ _).drew
    refine wp_region_noPanic ?_
    refine wp_region_held_drew (S := (fun W => W.cell? ⟨w2.heap.size, 0, none⟩ = some (.slice (some ⟨g, 0, none⟩) 5 c) ∧ W.cell? ⟨w7.heap.size, 0, none⟩ = some (.string nm) ∧ W.cell? ⟨w7.heap.size, 1, none⟩ = some (.int .i64 A) ∧ W.cell? ⟨w7.heap.size, 2, none⟩ = some (.slice b2 n2 c2))) (by kernel_rfl) ?hS10 (fun hHeld => ?_)
    case hS10 => exact ⟨X_0, T_0, T_1, T_2⟩
    refine wpAnyH_take (i := 0) (v := ?v0_11) rfl (by kernel_rfl) (by kernel_rfl) (by kernel_rfl) (fun _ _ _ h => h) (Or.inl ⟨by rfl, ?hy0_11⟩) (by assumption) ?rest0_11
    case hy0_11 => intro w hSw; (try dsimp only at hSw); go_simp; (try with_reducible rfl)
    try simp only [Act.put, lgA, lgB, lgC, lgD, lgE, lgF]
    refine wpAnyH_take (i := 1) (v := ?v1_12) rfl (by kernel_rfl) (by kernel_rfl) (by kernel_rfl) (fun _ _ _ h => h) (Or.inl ⟨by rfl, ?hy1_12⟩) (by assumption) ?rest1_12
    case hy1_12 => intro w hSw; (try dsimp only at hSw); go_simp; (try with_reducible rfl)
    try simp only [Act.put, lgA, lgB, lgC, lgD, lgE, lgF]
    refine wpAnyH_take (i := 2) (v := ?v2_13) rfl (by kernel_rfl) (by kernel_rfl) (by kernel_rfl) (fun _ _ _ h => h) (Or.inl ⟨by rfl, ?hy2_13⟩) (by assumption) ?rest2_13
    case hy2_13 => intro w hSw; (try dsimp only at hSw); go_simp; (try with_reducible rfl)
    try simp only [Act.put, lgA, lgB, lgC, lgD, lgE, lgF]
    refine wpAnyH_take (i := 4) (v := ?v4_14) rfl (by kernel_rfl) (by kernel_rfl) (by kernel_rfl) (fun _ _ _ h => h) (Or.inl ⟨by rfl, ?hy4_14⟩) (by assumption) ?rest4_14
    case hy4_14 => intro w hSw; (try dsimp only at hSw); go_simp; (try with_reducible rfl)
    try simp only [Act.put, lgA, lgB, lgC, lgD, lgE, lgF]
    refine wpAnyH_ready (rs := [3]) (by kernel_rfl) (by simp) ?_
    refine AllReadyH.cons rfl (fun K hK => ?_) AllReadyH.nil
    go_simp; (refine (l1Below_any _ cb ba bn bc 5 (by omega) (HC.below' hdr (by omega))).mono ?_); rintro e wA ⟨x, rfl, hx0, hx1, hx2, HC2, kA⟩; have tA : Turn cb (cb + 1) w9 wA := (turn_below hdr (Nat.le_refl _)).trans kA.turn; have sA := tA.size; have hbA := hb9.trans tA; have hoA := ho.turn tA (by omega); have hoB := ho2.turn tA (by omega); have x2 := (tA.cell (p := ⟨w2.heap.size, 0, none⟩) (by simp only []; omega) (by simp only []; omega)).trans X_0; have xf2 := (tA.frozen (p := ⟨w2.heap.size, 0, none⟩) (by simp only []; omega) (by simp only []; omega)).trans X_f0; have r2 := (tA.cell (p := ⟨w.heap.size, 0, none⟩) (by simp only []; omega) (by simp only []; omega)).trans R_0; have rf2 := (tA.frozen (p := ⟨w.heap.size, 0, none⟩) (by simp only []; omega) (by simp only []; omega)).trans R_f0; clear X_0 X_f0 R_0 R_f0; have t20 := (tA.cell (p := ⟨w7.heap.size, 0, none⟩) (by simp only []; omega) (by simp only []; omega)).trans T_0; have t21 := (tA.cell (p := ⟨w7.heap.size, 1, none⟩) (by simp only []; omega) (by simp only []; omega)).trans T_1; have t22 := (tA.cell (p := ⟨w7.heap.size, 2, none⟩) (by simp only []; omega) (by simp only []; omega)).trans T_2; clear T_0 T_1 T_2; clear hx2 kA tA ho ho2 HC; obtain ⟨kx, rfl⟩ := Int.eq_ofNat_of_zero_le hx0; have hkx : kx < 5 := by { have := hx1 (by omega); omega }; clear hx0 hx1
    refine hK.out _ _ ?_ (fun hHeld => ?_)
    · exact ⟨x2, t20, t21, t22⟩
    clear hK K
    try simp only [Act.put, List.setIfInBounds_toArray, List.set_cons_zero, List.set_cons_succ]
    have hkx5 : (kx : Int) < 5 := by omega
    refine wpAnyH_take (i := 5) (v := ?v5_15) rfl (by kernel_rfl) (by kernel_rfl) (by kernel_rfl) (fun _ _ _ h => h) (Or.inl ⟨by rfl, ?hy5_15⟩) (by assumption) ?rest5_15
    case hy5_15 => intro w hSw; (try dsimp only at hSw); go_simp; (try with_reducible rfl)
    try simp only [Act.put, lgA, lgB, lgC, lgD, lgE, lgF]
    obtain ⟨gg, cc, f9, pre, post, E, hga, hg1, hg2, hg3, hrep, hpre, hgc, _, hput⟩ := own_put hoA (i := kx) (x := ts[kx]) (List.getElem?_eq_getElem (by omega))
    simp only [Option.some.injEq, Addr.mk.injEq] at hga
    obtain ⟨rfl, _, _⟩ := hga
    obtain ⟨c0, d0, p0, q0, rfl, rfl, ⟨rfl, hs0, rfl⟩, ⟨c1, d1, p1, q1, rfl, rfl, ⟨rfl, hs1, rfl⟩, t2⟩⟩ := hrep
    obtain ⟨a2, m2, rfl⟩ := oS_len t2
    replace hpre : pre.length = kx * 3 := hpre
    replace hgc : wA.heap[g]? = some (.cells (pre ++ ([Value.string (ts[kx]).1, Value.int .i64 (ts[kx]).2.1, Value.slice a2 (ts[kx]).2.2.length m2] ++ post)).toArray E) := hgc
    have hfz0 := at_frozen hgc (kx * 3)
    have hfz1 := at_frozen hgc (kx * 3 + 1)
    have hfz2 := at_frozen hgc (kx * 3 + 2)
    have hcl0 : wA.cell? ⟨g, kx * 3, none⟩ = some (Value.string (ts[kx]).1) := at_cell hgc hpre (j := 0) rfl
    have hcl1 : wA.cell? ⟨g, kx * 3 + 1, none⟩ = some (Value.int .i64 (ts[kx]).2.1) := at_cell hgc hpre (j := 1) rfl
    have hcl2 : wA.cell? ⟨g, kx * 3 + 2, none⟩ = some (Value.slice a2 (ts[kx]).2.2.length m2) := at_cell hgc hpre (j := 2) rfl
    refine wpAnyH_ready (rs := [6]) (by kernel_rfl) (by simp) ?_
    refine AllReadyH.cons rfl (fun K9 hK9 => ?_) AllReadyH.nil
    go_simp
    obtain ⟨wF1, hwF1⟩ : ∃ W, W = wA.setCell ⟨g, kx * 3, none⟩ (.string nm) := ⟨_, rfl⟩
    obtain ⟨wF2, hwF2⟩ : ∃ W, W = wF1.setCell ⟨g, kx * 3 + 1, none⟩ (.int .i64 A) := ⟨_, rfl⟩
    obtain ⟨wF, hwF⟩ : ∃ W, W = wF2.setCell ⟨g, kx * 3 + 2, none⟩ (.slice b2 n2 c2) := ⟨_, rfl⟩
    rw [← hwF1, ← hwF2, ← hwF]
    have hg8 : wF1.heap[g]? = some (.cells (pre ++ ([Value.string nm, Value.int .i64 (ts[kx]).2.1, Value.slice a2 (ts[kx]).2.2.length m2] ++ post)).toArray E) := by rw [hwF1]; exact at_set hgc hpre (j := 0) (by simp) _
    have hg9 : wF2.heap[g]? = some (.cells (pre ++ ([Value.string nm, Value.int .i64 A, Value.slice a2 (ts[kx]).2.2.length m2] ++ post)).toArray E) := by rw [hwF2]; exact at_set hg8 hpre (j := 1) (by simp) _
    have hgF : wF.heap[g]? = some (.cells (pre ++ ([Value.string nm, Value.int .i64 A, Value.slice b2 n2 c2] ++ post)).toArray E) := by rw [hwF]; exact at_set hg9 hpre (j := 2) (by simp) _
    have hne : ∀ k, k ≠ g → wF.heap[k]? = wA.heap[k]? := fun k hk => by rw [hwF, Below.heap_setCell _ _ _ _ hk, hwF2, Below.heap_setCell _ _ _ _ hk, hwF1, Below.heap_setCell _ _ _ _ hk]
    have tF : Turn g (g + 1) wA wF := by
      rw [hwF, hwF2, hwF1]
      exact (((turn_refl g (g + 1) wA).setIn (p := ⟨g, _, none⟩) (Nat.le_refl _) (Nat.lt_succ_self _) _).setIn (p := ⟨g, _, none⟩) (Nat.le_refl _) (Nat.lt_succ_self _) _).setIn (p := ⟨g, _, none⟩) (Nat.le_refl _) (Nat.lt_succ_self _) _
    have oF := hput wF (nm, A, rows2) [Value.string nm, Value.int .i64 A, Value.slice b2 n2 c2] lo7 hi7 (oT_mk (x := (nm, A, rows2)) (show nm.size ≤ _ by omega) (show I64 A by unfold I64; omega) (hoB.turn tF (by omega)) (Nat.le_refl _) (Nat.le_refl _)) (by omega) (by omega) hgF (fun k _ _ h9 => hne k h9)
    have zF : Below lo4 wA wF := (tF.below (by omega)).mono (by omega)
    have sF := zF.size
    have hbF := turn_on' hbA (zF.mono (by omega))
    have x4 := txc tF x2
    have t40 := txc tF t20
    have t41 := txc tF t21
    have t42 := txc tF t22
    have r4 := bxc zF r2
    have rf4 := bxf zF rf2
    have HC4 := HC2.below' zF (by omega)
    clear hwF hwF1 hwF2 hput hgc hgF hg8 hg9 hfz0 hfz1 hfz2 hcl0 hcl1 hcl2 x2 xf2 r2 rf2 HC2 t2 hne t20 t21 t22 hoB
    refine hK9.out _ _ ?_ (fun hHeld => ?_)
    · exact ⟨x4, t40, t41, t42⟩
    clear hK9 K9
    try simp only [Act.put, lgA, lgB, lgC, lgD, lgE, lgF]
    refine wpAnyH_done (by kernel_rfl) ?_ _
    refine NoPanic.normal ?_
    obtain ⟨ts2, hts2⟩ : ∃ q, ts.set kx (nm, A, rows2) = q := ⟨_, rfl⟩
    rw [hts2] at oF
    go_wp2_with fail
    refine bodyPost_ret (v := .agg #[.slice (some ⟨g, 0, none⟩) 5 c]) (by simp [results, Tryz.results53, go_sem, r4, rf4]) rfl ?_
    have HDB : DrawnDb lo4 hi7 _ (some ⟨g, 0, none⟩) 5 c ts2 := DrawnDb.of oF
    first | refine ⟨some ⟨g, 0, none⟩, 5, c, ts2, rfl, ?_, ?_, ?_⟩ | refine ⟨some ⟨g, 0, none⟩, 5, c, rfl, ts2, ?_, ?_, ?_⟩
    · refine DrawnDb.mono (lo := lo4) (hi := hi7) ?_ (by omega) (by simp [World.setCell]; omega)
      repeat (refine DrawnDb.off ?_ rfl (by simp only []; omega))
      exact HDB
    · refine Cur.below' (C := w.heap.size) HC4 ?_ hcb
      repeat (refine Below.setCell ?_ (by simp only []; omega) _)
      exact Below.refl _ _
    · refine turn_on' hbF ?_
      repeat (refine Below.setCell ?_ (by simp only []; omega) _)
      exact Below.refl _ _
  by_cases a1 : k1 = 1
  · subst a1
    obtain ⟨w16, hw16⟩ : ∃ W, W = w5.alloc (.cells #[.string (ByteArray.mk #[97]), .string (ByteArray.mk #[119]), .string (ByteArray.mk #[122])] 9) := ⟨_, rfl⟩
    have z16 : Below w5.heap.size w5 w16 := by rw [hw16]; exact (Below.refl _ _).alloc (Nat.le_refl _) _
    have s16 : w16.heap.size = w5.heap.size + 1 := by rw [hw16]; simp
    have hb16 := turn_on' hb6 (z16.mono (by omega))
    have old16_R_0 := R_0
    have old16_X_0 := X_0
    replace HC := HC.below' z16 (by omega)
    replace R_0 := bxc z16 R_0
    replace R_f0 := bxf z16 R_f0
    replace ho := ho.below z16 (by omega)
    replace X_0 := bxc z16 X_0
    replace X_f0 := bxf z16 X_f0
    have L_0 : w16.cell? ⟨w5.heap.size, 0, none⟩ = some (.string (ByteArray.mk #[97])) := by rw [hw16]; exact box_cell (Below.refl _ _) rfl
    have L_1 : w16.cell? ⟨w5.heap.size, 1, none⟩ = some (.string (ByteArray.mk #[119])) := by rw [hw16]; exact box_cell (Below.refl _ _) rfl
    have L_2 : w16.cell? ⟨w5.heap.size, 2, none⟩ = some (.string (ByteArray.mk #[122])) := by rw [hw16]; exact box_cell (Below.refl _ _) rfl
    have raw16_R_0 := R_0
    have raw16_R_f0 := R_f0
    have raw16_X_0 := X_0
    have raw16_X_f0 := X_f0
    have raw16_L_0 := L_0
    have raw16_L_1 := L_1
    have raw16_L_2 := L_2
    rw [hw16] at raw16_R_0 raw16_R_f0 raw16_X_0 raw16_X_f0 raw16_L_0 raw16_L_1 raw16_L_2
    have HN : Hid (∀ i, i < 3 → ∃ s, s ∈ [ByteArray.mk #[97], ByteArray.mk #[119], ByteArray.mk #[122]] ∧ w16.cell? ⟨w5.heap.size, i, none⟩ = some (.string s)) := Lib.hid (fun i hi => by
      rcases (by omega : i = 0 ∨ i = 1 ∨ i = 2) with rfl | rfl | rfl
      · exact ⟨ByteArray.mk #[97], by simp, L_0⟩
      · exact ⟨ByteArray.mk #[119], by simp, L_1⟩
      · exact ⟨ByteArray.mk #[122], by simp, L_2⟩)
    clear L_0 L_1 L_2
    go_wp2_with fail
    rw [← hw16]
    clear hw16
    clear old16_R_0 old16_X_0 raw16_R_0 raw16_R_f0 raw16_X_0 raw16_X_f0 raw16_L_0 raw16_L_1 raw16_L_2
    have HC_o := HC
    clear HC
    refine (l1Pick_any _ cb ba bn bc _ 3 3 _ (by omega) (by omega) HN.out (by omega) HC_o).mono ?_
    rintro e w17 ⟨nm, rfl, hnm, HC, z17⟩
    clear HC_o
    have s18 := Nat.le_of_eq z17.size
    have s18' := Nat.le_of_eq z17.size.symm
    replace z17 := z17.turn
    have hb18 := hb16.trans z17
    replace R_0 := txc z17 R_0
    replace R_f0 := txf z17 R_f0
    replace ho := ho.turn z17 (by omega)
    replace X_0 := txc z17 X_0
    replace X_f0 := txf z17 X_f0
    have hns : nm.size ≤ 5 := by
      simp only [List.mem_cons, List.not_mem_nil, or_false] at hnm
      rcases hnm with rfl | rfl | rfl <;> decide
    clear hnm HN
    go_wp2_with fail
    obtain ⟨lo7, hlo7⟩ : ∃ q, q = w17.heap.size := ⟨_, rfl⟩
    have HC_o := HC
    clear HC
    refine (l4Tab_any _ cb ba bn bc nm 2 4 3 (by omega) (by omega) (by omega) HC_o (by omega)).mono ?_
    rintro e w19 ⟨b2, n2, c2, rows2, rfl, ho2, hrl2, hrr2, HC, z19⟩
    clear HC_o
    have s20 := z19.size
    have hb20 := hb18.trans z19
    replace R_0 := txc z19 R_0
    replace R_f0 := txf z19 R_f0
    replace ho := ho.turn z19 (by omega)
    replace X_0 := txc z19 X_0
    replace X_f0 := txf z19 X_f0
    rw [← hlo7] at ho2
    obtain ⟨hi7, hhi7⟩ : ∃ q, q = w19.heap.size := ⟨_, rfl⟩
    rw [← hhi7] at ho2
    have hl7 : hi5 + 1 ≤ lo7 ∧ lo7 ≤ hi7 := by omega
    clear hrr2
    obtain ⟨w21, hw21⟩ : ∃ W, W = w19.alloc (.cells #[.string nm, .int .i64 2, .slice b2 n2 c2] 44) := ⟨_, rfl⟩
    have z21 : Below w19.heap.size w19 w21 := by rw [hw21]; exact (Below.refl _ _).alloc (Nat.le_refl _) _
    have s21 : w21.heap.size = w19.heap.size + 1 := by rw [hw21]; simp
    have hb21 := turn_on' hb20 (z21.mono (by omega))
    have old21_R_0 := R_0
    have old21_X_0 := X_0
    replace HC := HC.below' z21 (by omega)
    replace R_0 := bxc z21 R_0
    replace R_f0 := bxf z21 R_f0
    replace ho := ho.below z21 (by omega)
    replace X_0 := bxc z21 X_0
    replace X_f0 := bxf z21 X_f0
    replace ho2 := ho2.below z21 (by omega)
    have T_0 : w21.cell? ⟨w19.heap.size, 0, none⟩ = some (.string nm) := by rw [hw21]; exact box_cell (Below.refl _ _) rfl
    have T_1 : w21.cell? ⟨w19.heap.size, 1, none⟩ = some (.int .i64 2) := by rw [hw21]; exact box_cell (Below.refl _ _) rfl
    have T_2 : w21.cell? ⟨w19.heap.size, 2, none⟩ = some (.slice b2 n2 c2) := by rw [hw21]; exact box_cell (Below.refl _ _) rfl
    have raw21_R_0 := R_0
    have raw21_R_f0 := R_f0
    have raw21_X_0 := X_0
    have raw21_X_f0 := X_f0
    have raw21_T_0 := T_0
    have raw21_T_1 := T_1
    have raw21_T_2 := T_2
    rw [hw21] at raw21_R_0 raw21_R_f0 raw21_X_0 raw21_X_f0 raw21_T_0 raw21_T_1 raw21_T_2
    have oTb : Own oT lo7 hi7 w21 [.string nm, .int .i64 2, .slice b2 n2 c2] (nm, 2, rows2) := oT_mk (x := (nm, 2, rows2)) (show nm.size ≤ _ by omega) (show I64 2 by constructor <;> decide) ho2 (Nat.le_refl _) (Nat.le_refl _)
    obtain ⟨na, nn, nc, wn, hrn, _, hzn, hzs, on_⟩ := own_tab 24 ho oTb (by omega) (by omega) (by omega) (by omega) (by omega) rfl
    rw [s21] at hrn
    rw [hw21] at hrn
    clear ho2 ho oTb
    have s22 := hzn.size
    have hq22 := hzn.below (by omega)
    have hb22 := turn_on' hb21 (hq22.mono (by omega))
    replace HC := HC.below' hq22 (by omega)
    replace R_0 := txc hzn R_0
    replace R_f0 := txf hzn R_f0
    replace X_0 := txc hzn X_0
    replace X_f0 := txf hzn X_f0
    obtain ⟨xn, hxn⟩ : ∃ q, q = wn.heap.size := ⟨_, rfl⟩
    rw [← hxn] at on_
    have oX := on_ ⟨w2.heap.size, 0, none⟩ (.slice na nn nc) (by simp only []; omega) (by simp only []; omega)
    go_wp2_with ((at_builtin; refine wpList_app_run hrn rfl rfl rfl rfl rfl ?_))
    refine bodyPost_ret (v := .agg #[.slice na nn nc]) (by simp [results, Tryz.results53, go_sem, R_0, R_f0]) rfl ?_
    obtain ⟨g3, rfl⟩ := (oTl_some oX (by rw [List.length_append]; simp)).2
    have HDB : DrawnDb lo4 xn _ (some ⟨g3, 0, none⟩) nn nc (ts ++ [(nm, 2, rows2)]) := DrawnDb.of oX
    first | refine ⟨some ⟨g3, 0, none⟩, nn, nc, (ts ++ [(nm, 2, rows2)]), rfl, ?_, ?_, ?_⟩ | refine ⟨some ⟨g3, 0, none⟩, nn, nc, rfl, (ts ++ [(nm, 2, rows2)]), ?_, ?_, ?_⟩
    · refine DrawnDb.mono (lo := lo4) (hi := xn) ?_ (by omega) (by simp [World.setCell]; omega)
      repeat (refine DrawnDb.off ?_ rfl (by simp only []; omega))
      exact HDB
    · refine Cur.below' (C := w.heap.size) HC ?_ hcb
      repeat (refine Below.setCell ?_ (by simp only []; omega) _)
      exact Below.refl _ _
    · refine turn_on' hb22 ?_
      repeat (refine Below.setCell ?_ (by simp only []; omega) _)
      exact Below.refl _ _
  by_cases a2 : k1 = 2
  · subst a2
    go_wp2_with fail
    have hdr : Below w5.heap.size w5 w5.drew := (Below.refl _ _).drew
    have xd0 : w5.drew.cell? ⟨w2.heap.size, 0, none⟩ = some (.slice (some ⟨g, 0, none⟩) 5 c) := X_0
    refine wp_region_noPanic ?_
    refine wp_region_held_drew (S := (fun W => True)) (by kernel_rfl) ?hS23 (fun hHeld => ?_)
    case hS23 => trivial
    refine wpAnyH_take (i := 0) (v := ?v0_24) rfl (by kernel_rfl) (by kernel_rfl) (by kernel_rfl) (fun _ _ _ h => h) (Or.inl ⟨by rfl, ?hy0_24⟩) (by assumption) ?rest0_24
    case hy0_24 => intro w hSw; (try dsimp only at hSw); go_simp; (try with_reducible rfl)
    try simp only [Act.put, lgA, lgB, lgC, lgD, lgE, lgF]
    refine wpAnyH_take (i := 2) (v := ?v2_25) rfl (by kernel_rfl) (by kernel_rfl) (by kernel_rfl) (fun _ _ _ h => h) (Or.inl ⟨by rfl, ?hy2_25⟩) (by assumption) ?rest2_25
    case hy2_25 => intro w hSw; (try dsimp only at hSw); go_simp; (try with_reducible rfl)
    try simp only [Act.put, lgA, lgB, lgC, lgD, lgE, lgF]
    refine wpAnyH_ready (rs := [1, 3]) (by kernel_rfl) (by simp) ?_
    refine AllReadyH.cons rfl (fun K9 hK9 => ?_) (AllReadyH.cons rfl (fun K9 hK9 => ?_) AllReadyH.nil)
    · skip
      go_simp
      refine hK9.out _ _ trivial (fun hHeld => ?_)
      clear hK9 K9
      try simp only [Act.put, lgA, lgB, lgC, lgD, lgE, lgF]
      refine wpAnyH_ready (rs := [3]) (by kernel_rfl) (by simp) ?_
      refine AllReadyH.cons rfl (fun K9 hK9 => ?_) AllReadyH.nil
      go_simp
      (refine (l1Below_any _ cb ba bn bc 5 (by omega) (HC.below' hdr (by omega))).mono ?_)
      rintro e wA ⟨x, rfl, hx0, hx1, hx2, HC2, kA⟩
      have tA : Turn cb (cb + 1) w5 wA := (turn_below hdr (Nat.le_refl _)).trans kA.turn
      have sA := tA.size
      have hbA := hb6.trans tA
      have hoA := ho.turn tA (by omega)
      have x2 := txc tA X_0
      have xf2 := txf tA X_f0
      have r2 := txc tA R_0
      have rf2 := txf tA R_f0
      clear X_0 X_f0 R_0 R_f0
      clear hx2 kA tA ho HC
      obtain ⟨kx, rfl⟩ := Int.eq_ofNat_of_zero_le hx0
      have hkx : kx < 5 := by
        have := hx1 (by omega)
        omega
      clear hx0 hx1 xd0
      refine hK9.out _ _ trivial (fun hHeld => ?_)
      clear hK9 K9
      try simp only [Act.put, lgA, lgB, lgC, lgD, lgE, lgF]
      have hkx5 : (kx : Int) ≤ 5 := by omega
      have hcap5 := (oTl_cap hoA).2.1
      have hck : ¬ c = kx := by omega
      refine wpAnyH_take (i := 4) (v := .slice (some ⟨g, kx * 3, none⟩) (5 - kx) (c - kx)) rfl (by kernel_rfl) (by kernel_rfl) (by kernel_rfl) (fun _ _ _ h => h) (Or.inl ⟨by rfl, ?_⟩) (by assumption) ?_
      · intro w hSw; (try dsimp only at hSw); go_simp
      try simp only [Act.put, lgA, lgB, lgC, lgD, lgE, lgF]
      refine wpAnyH_take (i := 5) (v := ?v5_26) rfl (by kernel_rfl) (by kernel_rfl) (by kernel_rfl) (fun _ _ _ h => h) (Or.inl ⟨by rfl, ?hy5_26⟩) (by assumption) ?rest5_26
      case hy5_26 => intro w hSw; (try dsimp only at hSw); go_simp; (try with_reducible rfl)
      try simp only [Act.put, lgA, lgB, lgC, lgD, lgE, lgF]
      refine wpAnyH_ready (rs := [6]) (by kernel_rfl) (by simp) ?_
      refine AllReadyH.cons rfl (fun K9 hK9 => ?_) AllReadyH.nil
      go_simp
      obtain ⟨wF, hwF⟩ : ∃ W, W = wA.setCell ⟨w2.heap.size, 0, none⟩ (.slice (some ⟨g, kx * 3, none⟩) (5 - kx) (c - kx)) := ⟨_, rfl⟩
      rw [← hwF]
      have x4 : wF.cell? ⟨w2.heap.size, 0, none⟩ = some (.slice (some ⟨g, kx * 3, none⟩) (5 - kx) (c - kx)) := by rw [hwF]; simp [go_sem, x2]
      have zF : Below w2.heap.size wA wF := by rw [hwF]; exact Below.setCell (Below.refl _ _) (by simp only []; omega) _
      have r4 := bxc zF r2
      have rf4 := bxf zF rf2
      have sF := zF.size
      have HC4 := HC2.below' zF (by omega)
      have hbF := turn_on' hbA (zF.mono (by omega))
      have oF : DrawnDb lo4 hi5 wF (some ⟨g, kx * 3, none⟩) (5 - kx) (c - kx) (ts.drop kx) := ⟨g, 5, c, kx, ts, rfl, rfl, rfl, by omega, hcap5, by rw [hwF]; exact own_off hoA rfl (by simp only []; omega), rfl⟩
      clear hwF x2 xf2 r2 rf2 HC2 hoA
      refine hK9.out _ _ trivial (fun hHeld => ?_)
      clear hK9 K9
      try simp only [Act.put, lgA, lgB, lgC, lgD, lgE, lgF]
      refine wpAnyH_done (by kernel_rfl) ?_ _
      refine NoPanic.normal ?_
      obtain ⟨ts2, hts2⟩ : ∃ q, ts.drop kx = q := ⟨_, rfl⟩
      rw [hts2] at oF
      obtain ⟨n5, hn5⟩ : ∃ q, 5 - kx = q := ⟨_, rfl⟩
      obtain ⟨c5, hc5⟩ : ∃ q, c - kx = q := ⟨_, rfl⟩
      rw [hn5, hc5] at oF x4 ⊢
      clear hn5 hc5 hts2
      go_wp2_with fail
      refine bodyPost_ret (v := .agg #[.slice (some ⟨g, kx * 3, none⟩) n5 c5]) (by simp [results, Tryz.results53, go_sem, r4, rf4]) rfl ?_
      have HDB : DrawnDb lo4 hi5 _ (some ⟨g, kx * 3, none⟩) n5 c5 ts2 := oF
      first | refine ⟨some ⟨g, kx * 3, none⟩, n5, c5, ts2, rfl, ?_, ?_, ?_⟩ | refine ⟨some ⟨g, kx * 3, none⟩, n5, c5, rfl, ts2, ?_, ?_, ?_⟩
      · refine DrawnDb.mono (lo := lo4) (hi := hi5) ?_ (by omega) (by simp [World.setCell]; omega)
        repeat (refine DrawnDb.off ?_ rfl (by simp only []; omega))
        exact HDB
      · refine Cur.below' (C := w.heap.size) HC4 ?_ hcb
        repeat (refine Below.setCell ?_ (by simp only []; omega) _)
        exact Below.refl _ _
      · refine turn_on' hbF ?_
        repeat (refine Below.setCell ?_ (by simp only []; omega) _)
        exact Below.refl _ _
    · skip
      go_simp
      (refine (l1Below_any _ cb ba bn bc 5 (by omega) (HC.below' hdr (by omega))).mono ?_)
      rintro e wA ⟨x, rfl, hx0, hx1, hx2, HC2, kA⟩
      have tA : Turn cb (cb + 1) w5 wA := (turn_below hdr (Nat.le_refl _)).trans kA.turn
      have sA := tA.size
      have hbA := hb6.trans tA
      have hoA := ho.turn tA (by omega)
      have x2 := txc tA X_0
      have xf2 := txf tA X_f0
      have r2 := txc tA R_0
      have rf2 := txf tA R_f0
      clear X_0 X_f0 R_0 R_f0
      clear hx2 kA tA ho HC
      obtain ⟨kx, rfl⟩ := Int.eq_ofNat_of_zero_le hx0
      have hkx : kx < 5 := by
        have := hx1 (by omega)
        omega
      clear hx0 hx1 xd0
      refine hK9.out _ _ trivial (fun hHeld => ?_)
      clear hK9 K9
      try simp only [Act.put, lgA, lgB, lgC, lgD, lgE, lgF]
      refine wpAnyH_ready (rs := [1]) (by kernel_rfl) (by simp) ?_
      refine AllReadyH.cons rfl (fun K9 hK9 => ?_) AllReadyH.nil
      go_simp
      refine hK9.out _ _ trivial (fun hHeld => ?_)
      clear hK9 K9
      try simp only [Act.put, lgA, lgB, lgC, lgD, lgE, lgF]
      have hkx5 : (kx : Int) ≤ 5 := by omega
      have hcap5 := (oTl_cap hoA).2.1
      have hck : ¬ c = kx := by omega
      refine wpAnyH_take (i := 4) (v := .slice (some ⟨g, kx * 3, none⟩) (5 - kx) (c - kx)) rfl (by kernel_rfl) (by kernel_rfl) (by kernel_rfl) (fun _ _ _ h => h) (Or.inl ⟨by rfl, ?_⟩) (by assumption) ?_
      · intro w hSw; (try dsimp only at hSw); go_simp
      try simp only [Act.put, lgA, lgB, lgC, lgD, lgE, lgF]
      refine wpAnyH_take (i := 5) (v := ?v5_27) rfl (by kernel_rfl) (by kernel_rfl) (by kernel_rfl) (fun _ _ _ h => h) (Or.inl ⟨by rfl, ?hy5_27⟩) (by assumption) ?rest5_27
      case hy5_27 => intro w hSw; (try dsimp only at hSw); go_simp; (try with_reducible rfl)
      try simp only [Act.put, lgA, lgB, lgC, lgD, lgE, lgF]
      refine wpAnyH_ready (rs := [6]) (by kernel_rfl) (by simp) ?_
      refine AllReadyH.cons rfl (fun K9 hK9 => ?_) AllReadyH.nil
      go_simp
      obtain ⟨wF, hwF⟩ : ∃ W, W = wA.setCell ⟨w2.heap.size, 0, none⟩ (.slice (some ⟨g, kx * 3, none⟩) (5 - kx) (c - kx)) := ⟨_, rfl⟩
      rw [← hwF]
      have x4 : wF.cell? ⟨w2.heap.size, 0, none⟩ = some (.slice (some ⟨g, kx * 3, none⟩) (5 - kx) (c - kx)) := by rw [hwF]; simp [go_sem, x2]
      have zF : Below w2.heap.size wA wF := by rw [hwF]; exact Below.setCell (Below.refl _ _) (by simp only []; omega) _
      have r4 := bxc zF r2
      have rf4 := bxf zF rf2
      have sF := zF.size
      have HC4 := HC2.below' zF (by omega)
      have hbF := turn_on' hbA (zF.mono (by omega))
      have oF : DrawnDb lo4 hi5 wF (some ⟨g, kx * 3, none⟩) (5 - kx) (c - kx) (ts.drop kx) := ⟨g, 5, c, kx, ts, rfl, rfl, rfl, by omega, hcap5, by rw [hwF]; exact own_off hoA rfl (by simp only []; omega), rfl⟩
      clear hwF x2 xf2 r2 rf2 HC2 hoA
      refine hK9.out _ _ trivial (fun hHeld => ?_)
      clear hK9 K9
      try simp only [Act.put, lgA, lgB, lgC, lgD, lgE, lgF]
      refine wpAnyH_done (by kernel_rfl) ?_ _
      refine NoPanic.normal ?_
      obtain ⟨ts2, hts2⟩ : ∃ q, ts.drop kx = q := ⟨_, rfl⟩
      rw [hts2] at oF
      obtain ⟨n5, hn5⟩ : ∃ q, 5 - kx = q := ⟨_, rfl⟩
      obtain ⟨c5, hc5⟩ : ∃ q, c - kx = q := ⟨_, rfl⟩
      rw [hn5, hc5] at oF x4 ⊢
      clear hn5 hc5 hts2
      go_wp2_with fail
      refine bodyPost_ret (v := .agg #[.slice (some ⟨g, kx * 3, none⟩) n5 c5]) (by simp [results, Tryz.results53, go_sem, r4, rf4]) rfl ?_
      have HDB : DrawnDb lo4 hi5 _ (some ⟨g, kx * 3, none⟩) n5 c5 ts2 := oF
      first | refine ⟨some ⟨g, kx * 3, none⟩, n5, c5, ts2, rfl, ?_, ?_, ?_⟩ | refine ⟨some ⟨g, kx * 3, none⟩, n5, c5, rfl, ts2, ?_, ?_, ?_⟩
      · refine DrawnDb.mono (lo := lo4) (hi := hi5) ?_ (by omega) (by simp [World.setCell]; omega)
        repeat (refine DrawnDb.off ?_ rfl (by simp only []; omega))
        exact HDB
      · refine Cur.below' (C := w.heap.size) HC4 ?_ hcb
        repeat (refine Below.setCell ?_ (by simp only []; omega) _)
        exact Below.refl _ _
      · refine turn_on' hbF ?_
        repeat (refine Below.setCell ?_ (by simp only []; omega) _)
        exact Below.refl _ _
  by_cases a3 : k1 = 3
  · subst a3
    go_wp2_with fail
    obtain ⟨lo7, hlo7⟩ : ∃ q, q = w5.heap.size := ⟨_, rfl⟩
    have HC_o := HC
    clear HC
    refine (l4Tab_any _ cb ba bn bc (ByteArray.mk #[119]) 1 2 3 (by omega) (by omega) (by omega) HC_o (by omega)).mono ?_
    rintro e w28 ⟨b2, n2, c2, rows2, rfl, ho2, hrl2, hrr2, HC, z28⟩
    clear HC_o
    have s29 := z28.size
    have hb29 := hb6.trans z28
    replace R_0 := txc z28 R_0
    replace R_f0 := txf z28 R_f0
    replace ho := ho.turn z28 (by omega)
    replace X_0 := txc z28 X_0
    replace X_f0 := txf z28 X_f0
    rw [← hlo7] at ho2
    obtain ⟨hi7, hhi7⟩ : ∃ q, q = w28.heap.size := ⟨_, rfl⟩
    rw [← hhi7] at ho2
    have hl7 : hi5 + 1 ≤ lo7 ∧ lo7 ≤ hi7 := by omega
    clear hrr2
    obtain ⟨w30, hw30⟩ : ∃ W, W = w28.alloc (.cells #[.string (ByteArray.mk #[119]), .int .i64 1, .slice b2 n2 c2] 44) := ⟨_, rfl⟩
    have z30 : Below w28.heap.size w28 w30 := by rw [hw30]; exact (Below.refl _ _).alloc (Nat.le_refl _) _
    have s30 : w30.heap.size = w28.heap.size + 1 := by rw [hw30]; simp
    have hb30 := turn_on' hb29 (z30.mono (by omega))
    have old30_R_0 := R_0
    have old30_X_0 := X_0
    replace HC := HC.below' z30 (by omega)
    replace R_0 := bxc z30 R_0
    replace R_f0 := bxf z30 R_f0
    replace ho := ho.below z30 (by omega)
    replace X_0 := bxc z30 X_0
    replace X_f0 := bxf z30 X_f0
    replace ho2 := ho2.below z30 (by omega)
    have T_0 : w30.cell? ⟨w28.heap.size, 0, none⟩ = some (.string (ByteArray.mk #[119])) := by rw [hw30]; exact box_cell (Below.refl _ _) rfl
    have T_1 : w30.cell? ⟨w28.heap.size, 1, none⟩ = some (.int .i64 1) := by rw [hw30]; exact box_cell (Below.refl _ _) rfl
    have T_2 : w30.cell? ⟨w28.heap.size, 2, none⟩ = some (.slice b2 n2 c2) := by rw [hw30]; exact box_cell (Below.refl _ _) rfl
    have raw30_R_0 := R_0
    have raw30_R_f0 := R_f0
    have raw30_X_0 := X_0
    have raw30_X_f0 := X_f0
    have raw30_T_0 := T_0
    have raw30_T_1 := T_1
    have raw30_T_2 := T_2
    rw [hw30] at raw30_R_0 raw30_R_f0 raw30_X_0 raw30_X_f0 raw30_T_0 raw30_T_1 raw30_T_2
    go_wp2_with fail
    rw [← hw30]
    clear hw30
    clear old30_R_0 old30_X_0 raw30_R_0 raw30_R_f0 raw30_X_0 raw30_X_f0 raw30_T_0 raw30_T_1 raw30_T_2
    obtain ⟨lo8, hlo8⟩ : ∃ q, q = w30.heap.size := ⟨_, rfl⟩
    have HC_o := HC
    clear HC
    refine (l4Tab_any _ cb ba bn bc (ByteArray.mk #[120]) 1 2 3 (by omega) (by omega) (by omega) HC_o (by omega)).mono ?_
    rintro e w31 ⟨b3, n3, c3, rows3, rfl, ho3, hrl3, hrr3, HC, z31⟩
    clear HC_o
    have s32 := z31.size
    have hb32 := hb30.trans z31
    replace R_0 := txc z31 R_0
    replace R_f0 := txf z31 R_f0
    replace ho := ho.turn z31 (by omega)
    replace X_0 := txc z31 X_0
    replace X_f0 := txf z31 X_f0
    replace ho2 := ho2.turn z31 (by omega)
    replace T_0 := txc z31 T_0
    replace T_1 := txc z31 T_1
    replace T_2 := txc z31 T_2
    rw [← hlo8] at ho3
    obtain ⟨hi8, hhi8⟩ : ∃ q, q = w31.heap.size := ⟨_, rfl⟩
    rw [← hhi8] at ho3
    have hl8 : hi7 ≤ lo8 ∧ lo8 ≤ hi8 := by omega
    clear hrr3
    obtain ⟨w33, hw33⟩ : ∃ W, W = w31.alloc (.cells #[.string (ByteArray.mk #[120]), .int .i64 1, .slice b3 n3 c3] 44) := ⟨_, rfl⟩
    have z33 : Below w31.heap.size w31 w33 := by rw [hw33]; exact (Below.refl _ _).alloc (Nat.le_refl _) _
    have s33 : w33.heap.size = w31.heap.size + 1 := by rw [hw33]; simp
    have hb33 := turn_on' hb32 (z33.mono (by omega))
    have old33_R_0 := R_0
    have old33_X_0 := X_0
    have old33_T_0 := T_0
    have old33_T_1 := T_1
    have old33_T_2 := T_2
    replace HC := HC.below' z33 (by omega)
    replace R_0 := bxc z33 R_0
    replace R_f0 := bxf z33 R_f0
    replace ho := ho.below z33 (by omega)
    replace X_0 := bxc z33 X_0
    replace X_f0 := bxf z33 X_f0
    replace ho2 := ho2.below z33 (by omega)
    replace T_0 := bxc z33 T_0
    replace T_1 := bxc z33 T_1
    replace T_2 := bxc z33 T_2
    replace ho3 := ho3.below z33 (by omega)
    have U_0 : w33.cell? ⟨w31.heap.size, 0, none⟩ = some (.string (ByteArray.mk #[120])) := by rw [hw33]; exact box_cell (Below.refl _ _) rfl
    have U_1 : w33.cell? ⟨w31.heap.size, 1, none⟩ = some (.int .i64 1) := by rw [hw33]; exact box_cell (Below.refl _ _) rfl
    have U_2 : w33.cell? ⟨w31.heap.size, 2, none⟩ = some (.slice b3 n3 c3) := by rw [hw33]; exact box_cell (Below.refl _ _) rfl
    have raw33_R_0 := R_0
    have raw33_R_f0 := R_f0
    have raw33_X_0 := X_0
    have raw33_X_f0 := X_f0
    have raw33_T_0 := T_0
    have raw33_T_1 := T_1
    have raw33_T_2 := T_2
    have raw33_U_0 := U_0
    have raw33_U_1 := U_1
    have raw33_U_2 := U_2
    rw [hw33] at raw33_R_0 raw33_R_f0 raw33_X_0 raw33_X_f0 raw33_T_0 raw33_T_1 raw33_T_2 raw33_U_0 raw33_U_1 raw33_U_2
    have oTb : Own oT lo7 hi7 w33 [.string (ByteArray.mk #[119]), .int .i64 1, .slice b2 n2 c2] (ByteArray.mk #[119], 1, rows2) := oT_mk (x := (ByteArray.mk #[119], 1, rows2)) (show (ByteArray.mk #[119]).size ≤ 9223372036854775807 by decide) (show I64 1 by constructor <;> decide) ho2 (Nat.le_refl _) (Nat.le_refl _)
    have oUb : Own oT lo8 hi8 w33 [.string (ByteArray.mk #[120]), .int .i64 1, .slice b3 n3 c3] (ByteArray.mk #[120], 1, rows3) := oT_mk (x := (ByteArray.mk #[120], 1, rows3)) (show (ByteArray.mk #[120]).size ≤ 9223372036854775807 by decide) (show I64 1 by constructor <;> decide) ho3 (Nat.le_refl _) (Nat.le_refl _)
    have oP : Own oTl lo7 (w33.heap.size + 1) (w33.alloc (.cells #[.string (ByteArray.mk #[119]), .int .i64 1, .slice b2 n2 c2, .string (ByteArray.mk #[120]), .int .i64 1, .slice b3 n3 c3] 44)) [.slice (some ⟨w33.heap.size, 0, none⟩) 2 2] [(ByteArray.mk #[119], 1, rows2), (ByteArray.mk #[120], 1, rows3)] := own_twolit oTb oUb (by omega) (by omega) (by omega) (by omega)
    have zP : Below w33.heap.size w33 (w33.alloc (.cells #[.string (ByteArray.mk #[119]), .int .i64 1, .slice b2 n2 c2, .string (ByteArray.mk #[120]), .int .i64 1, .slice b3 n3 c3] 44)) := (Below.refl _ _).alloc (Nat.le_refl _) _
    have sP := zP.size
    obtain ⟨v9, wn, hrn, _, hzn, on_⟩ := own_tabs 24 (ho.below zP (by omega)) oP (by simp) (by omega) (by omega) (by omega) (by simp [htl])
    have hbN := turn_on' (turn_on' hb33 (zP.mono (by omega))) ((hzn.below (by omega)).mono (by omega))
    have R_0n := (hzn.cell (p := ⟨w.heap.size, 0, none⟩) (by simp only []; omega) (by simp only []; omega)).trans ((zP.cell (p := ⟨w.heap.size, 0, none⟩) (by simp only []; omega)).trans R_0)
    have R_f0n := (hzn.frozen (p := ⟨w.heap.size, 0, none⟩) (by simp only []; omega) (by simp only []; omega)).trans ((zP.frozen (p := ⟨w.heap.size, 0, none⟩) (by simp only []; omega)).trans R_f0)
    have X_0n := (hzn.cell (p := ⟨w2.heap.size, 0, none⟩) (by simp only []; omega) (by simp only []; omega)).trans ((zP.cell (p := ⟨w2.heap.size, 0, none⟩) (by simp only []; omega)).trans X_0)
    have X_f0n := (hzn.frozen (p := ⟨w2.heap.size, 0, none⟩) (by simp only []; omega) (by simp only []; omega)).trans ((zP.frozen (p := ⟨w2.heap.size, 0, none⟩) (by simp only []; omega)).trans X_f0)
    have HCn := (HC.below' zP (by omega)).below' (hzn.below (by omega)) (by omega)
    have sn := hzn.size
    obtain ⟨xn, hxn⟩ : ∃ q, q = wn.heap.size := ⟨_, rfl⟩
    rw [← hxn] at on_
    have oX := on_ ⟨w2.heap.size, 0, none⟩ v9 (by simp only []; omega) (by simp only []; omega)
    obtain ⟨na, nn, nc, rfl⟩ := oTl_form1 oX
    rw [s33] at hrn
    rw [hw33] at hrn
    clear R_0 R_f0 X_0 X_f0 HC ho ho2 ho3 oTb oUb oP zP hzn on_
    go_wp2_with ((at_builtin; refine wpList_app_run hrn rfl rfl rfl rfl rfl ?_))
    refine bodyPost_ret (v := .agg #[.slice na nn nc]) (by simp [results, Tryz.results53, go_sem, R_0n, R_f0n]) rfl ?_
    obtain ⟨g3, rfl⟩ := (oTl_some oX (by rw [List.length_append]; simp)).2
    have HDB : DrawnDb lo4 xn _ (some ⟨g3, 0, none⟩) nn nc (ts ++ [(ByteArray.mk #[119], 1, rows2), (ByteArray.mk #[120], 1, rows3)]) := DrawnDb.of oX
    first | refine ⟨some ⟨g3, 0, none⟩, nn, nc, (ts ++ [(ByteArray.mk #[119], 1, rows2), (ByteArray.mk #[120], 1, rows3)]), rfl, ?_, ?_, ?_⟩ | refine ⟨some ⟨g3, 0, none⟩, nn, nc, rfl, (ts ++ [(ByteArray.mk #[119], 1, rows2), (ByteArray.mk #[120], 1, rows3)]), ?_, ?_, ?_⟩
    · refine DrawnDb.mono (lo := lo4) (hi := xn) ?_ (by omega) (by simp [World.setCell]; omega)
      repeat (refine DrawnDb.off ?_ rfl (by simp only []; omega))
      exact HDB
    · refine Cur.below' (C := w.heap.size) HCn ?_ hcb
      repeat (refine Below.setCell ?_ (by simp only []; omega) _)
      exact Below.refl _ _
    · refine turn_on' hbN ?_
      repeat (refine Below.setCell ?_ (by simp only []; omega) _)
      exact Below.refl _ _
  have n0 : (k1 == 0) = false := by rw [beq_eq_false_iff_ne]; exact a0
  have n1 : (k1 == 1) = false := by rw [beq_eq_false_iff_ne]; exact a1
  have n2 : (k1 == 2) = false := by rw [beq_eq_false_iff_ne]; exact a2
  have n3 : (k1 == 3) = false := by rw [beq_eq_false_iff_ne]; exact a3
  go_wp2_with fail
  refine bodyPost_ret (v := .agg #[.slice (some ⟨g, 0, none⟩) 5 c]) (by simp [results, Tryz.results53, go_sem, R_0, R_f0]) rfl ?_
  have HDB : DrawnDb lo4 hi5 _ (some ⟨g, 0, none⟩) 5 c ts := DrawnDb.of ho
  first | refine ⟨some ⟨g, 0, none⟩, 5, c, ts, rfl, ?_, ?_, ?_⟩ | refine ⟨some ⟨g, 0, none⟩, 5, c, rfl, ts, ?_, ?_, ?_⟩
  · refine DrawnDb.mono (lo := lo4) (hi := hi5) ?_ (by omega) (by simp [World.setCell]; omega)
    repeat (refine DrawnDb.off ?_ rfl (by simp only []; omega))
    exact HDB
  · refine Cur.below' (C := w.heap.size) HC ?_ hcb
    repeat (refine Below.setCell ?_ (by simp only []; omega) _)
    exact Below.refl _ _
  · refine turn_on' hb6 ?_
    repeat (refine Below.setCell ?_ (by simp only []; omega) _)
    exact Below.refl _ _

end Go.Proofs.YtpgfkjcekhifiaaGreat

namespace Go.Proofs.YtpgfkjcekhifiaaGreat

open Go.RowKit

set_option linter.unusedVariables false

set_option linter.unusedSimpArgs false

def pickTo (K : Nat) (xs : List DA) : Nat → List DA
  | 0 => []
  | j + 1 => pickTo K xs j ++ (if bitAt K j then (xs[j]?).toList else [])

theorem pickTo_yes {K j : Nat} {xs : List DA} {a : DA} (h : xs[j]? = some a) (hb : bitAt K j = true) : pickTo K xs (j + 1) = pickTo K xs j ++ [a] := by
  rw [pickTo, if_pos hb, h]; rfl

theorem pickTo_no {K j : Nat} {xs : List DA} (hb : bitAt K j = false) : pickTo K xs (j + 1) = pickTo K xs j := by
  rw [pickTo, if_neg (by rw [hb]; simp), List.append_nil]

theorem pickTo_len (K : Nat) (xs : List DA) : ∀ j, (pickTo K xs j).length ≤ j
  | 0 => Nat.le_refl _
  | j + 1 => by
    have := pickTo_len K xs j
    rw [pickTo, List.length_append]
    split
    · cases xs[j]? <;> simp <;> omega
    · simp; omega

theorem pickTo_mem {K : Nat} {xs : List DA} {a : DA} : ∀ {j : Nat}, a ∈ pickTo K xs j ↔ ∃ i, i < j ∧ bitAt K i = true ∧ xs[i]? = some a
  | 0 => by simp [pickTo]
  | j + 1 => by
    rw [pickTo, List.mem_append, pickTo_mem]
    constructor
    · rintro (⟨i, h1, h2, h3⟩ | h)
      · exact ⟨i, by omega, h2, h3⟩
      · split at h
        · rename_i hb
          exact ⟨j, by omega, hb, by simpa using h⟩
        · cases h
    · rintro ⟨i, h1, h2, h3⟩
      by_cases hi : i = j
      · subst hi
        right
        rw [if_pos h2, h3]
        simp
      · exact .inl ⟨i, by omega, h2, h3⟩

def selA (q : DQ) (K : Nat) : List DA := pickTo K q.2 q.2.length

def tabsOf (db : DDb) (as' : List DA) : List DT := as'.map (fun a => lookT (look db a.1))

def evalRA (db : DDb) (q : DQ) (K : Nat) : List RA := zipRA (tabsOf db (selA q K)) (selA q K)

theorem zipRA_map (db : DDb) (zs : List DA) : zipRA (tabsOf db zs) zs = zs.map (fun a => ((lookT (look db a.1)).2.2, a.2)) := by
  unfold zipRA tabsOf
  induction zs with
  | nil => rfl
  | cons a t ih => simp only [List.map_cons, List.zipWith_cons_cons, ih]

def raTo (db : DDb) (xs : List DA) (K j : Nat) : List RA := zipRA (tabsOf db (pickTo K xs j)) (pickTo K xs j)

theorem raTo_yes {db : DDb} {K j : Nat} {xs : List DA} {a : DA} (h : xs[j]? = some a) (hb : bitAt K j = true) : raTo db xs K (j + 1) = raTo db xs K j ++ [((lookT (look db a.1)).2.2, a.2)] := by
  rw [raTo, raTo, zipRA_map, zipRA_map, pickTo_yes h hb, List.map_append]; rfl

theorem raTo_no {db : DDb} {K j : Nat} {xs : List DA} (hb : bitAt K j = false) : raTo db xs K (j + 1) = raTo db xs K j := by
  rw [raTo, raTo, pickTo_no hb]

theorem raTo_all (db : DDb) (q : DQ) (K : Nat) : raTo db q.2 K q.2.length = evalRA db q K := rfl

theorem raTo_cnt (db : DDb) (xs : List DA) (K j : Nat) : (raTo db xs K j).length ≤ j := by
  rw [raTo, zipRA_map, List.length_map]; exact pickTo_len K xs j

def evalOk (db : DDb) (q : DQ) (k : Int) : Bool := queryFor db q && betw k 1 (fullMask q)

def evalK (db : DDb) (q : DQ) (K : Nat) : DAn := (varsOf q K, walkE (evalRA db q K) (varsOf q K) (varsOf q K).length [])

def evalM (db : DDb) (q : DQ) (k : Int) : DAn := if evalOk db q k then evalK db q k.toNat else ([], [])

theorem evalM_no {db : DDb} {q : DQ} {k : Int} (h : evalOk db q k = false) : evalM db q k = ([], []) := by simp [evalM, h]

theorem evalM_yes {db : DDb} {q : DQ} {K : Nat} (h : evalOk db q (K : Int) = true) : evalM db q (K : Int) = evalK db q K := by simp [evalM, h]

theorem evalOk_valid {db : DDb} {q : DQ} {k : Int} (h : evalOk db q k = true) : queryFor db q = true ∧ validQ q = true ∧ ∃ K : Nat, k = K ∧ 1 ≤ K ∧ K < 2 ^ q.2.length ∧ maskOkB q (K : Int) = true := by
  rw [evalOk, Bool.and_eq_true] at h
  have hv : validQ q = true := by have := h.1; rw [queryFor, Bool.and_eq_true] at this; exact this.1
  have hb := h.2
  rw [betw, Bool.and_eq_true, decide_eq_true_eq, decide_eq_true_eq] at hb
  have hf : fullMask q = ((2 ^ q.2.length - 1 : Nat) : Int) := by simp [fullMask, hv]
  have hp := Nat.two_pow_pos q.2.length
  refine ⟨h.1, hv, k.toNat, by omega, by omega, by omega, ?_⟩
  simp only [maskOkB, hv, betw, Bool.true_and, Bool.and_eq_true, decide_eq_true_eq]
  omega

theorem for_mem {db : DDb} : ∀ {xs : List DA}, forFrom db xs = true → ∀ a ∈ xs, (look db a.1).isSome = true ∧ (lookT (look db a.1)).2.1 = (a.2.length : Int)
  | [], _, a, ha => by cases ha
  | x :: t, h, a, ha => by
    simp only [forFrom, Bool.and_eq_true, decide_eq_true_eq] at h
    rcases List.mem_cons.1 ha with rfl | ha
    · exact ⟨h.1, h.2.1⟩
    · exact for_mem h.2.2 a ha

theorem varsFrom_nodup {n : Int} : ∀ {vs pre : List Int}, varsFrom n pre vs = true → vs.Nodup ∧ ∀ v ∈ vs, v ∉ pre
  | [], _, _ => ⟨List.nodup_nil, by simp⟩
  | x :: t, pre, h => by
    simp only [varsFrom, Bool.and_eq_true, Bool.not_eq_true', has, decide_eq_false_iff_not] at h
    obtain ⟨h1, h2⟩ := varsFrom_nodup h.2
    refine ⟨List.nodup_cons.2 ⟨fun hm => h2 x hm (by simp), h1⟩, fun v hv => ?_⟩
    rcases List.mem_cons.1 hv with rfl | hv
    · exact h.1.2
    · exact fun hm => h2 v hv (by simp [hm])

theorem validFrom_nodup {n : Nat} : ∀ {xs : List DA} {m : Nat}, validFrom n m xs = true → ∀ a ∈ xs, a.2.Nodup
  | [], _, _, a, ha => by cases ha
  | x :: t, m, h, a, ha => by
    simp only [validFrom, Bool.and_eq_true] at h
    rcases List.mem_cons.1 ha with rfl | ha
    · exact (varsFrom_nodup h.2.1).1
    · exact validFrom_nodup h.2.2 a ha

theorem validQ_nodup {q : DQ} (h : validQ q = true) : ∀ a ∈ q.2, a.2.Nodup := by
  simp only [validQ, Bool.and_eq_true] at h
  exact validFrom_nodup h.2

theorem look_some_T {db : DDb} {name : ByteArray} (h : (look db name).isSome = true) : TOk (lookT (look db name)) := by
  obtain ⟨t, ht⟩ := Option.isSome_iff_exists.1 h
  rw [ht]
  exact look_ok ht

theorem atom_fits {db : DDb} {q : DQ} (h : queryFor db q = true) {a : DA} (ha : a ∈ q.2) : TOk (lookT (look db a.1)) ∧ ∀ r ∈ (lookT (look db a.1)).2.2, r.length = a.2.length := by
  rw [queryFor, Bool.and_eq_true] at h
  obtain ⟨h1, h2⟩ := for_mem h.2 a ha
  have hT := look_some_T h1
  refine ⟨hT, fun r hr => ?_⟩
  have := (hT.row r hr).1
  omega

theorem selA_mem {q : DQ} {K : Nat} {a : DA} (h : a ∈ selA q K) : a ∈ q.2 := by
  obtain ⟨i, _, _, h3⟩ := pickTo_mem.1 h
  exact List.mem_of_getElem? h3

theorem evalRA_mem {db : DDb} {q : DQ} {K : Nat} {p : RA} (h : p ∈ evalRA db q K) : ∃ a ∈ selA q K, p = ((lookT (look db a.1)).2.2, a.2) := by
  rw [evalRA, zipRA_map] at h
  obtain ⟨a, ha, rfl⟩ := List.mem_map.1 h
  exact ⟨a, ha, rfl⟩

theorem evalRA_fine {db : DDb} {q : DQ} {n K : Nat} (h : queryFor db q = true) (hq : QOk q n) : ∀ p ∈ evalRA db q K, FineA n p := by
  intro p hp
  obtain ⟨a, ha, rfl⟩ := evalRA_mem hp
  have hm := selA_mem ha
  obtain ⟨h1, h2⟩ := atom_fits h hm
  have hv : validQ q = true := by rw [queryFor, Bool.and_eq_true] at h; exact h.1
  exact ⟨validQ_nodup hv a hm, fun v hv => hq.vars a hm v hv, fun r hr => ⟨h2 r hr, (h1.row r hr).2⟩⟩

theorem someFrom_iff {K v : Nat} : ∀ {xs : List DA} {i : Nat}, someFrom K v i xs = true ↔ ∃ j a, xs[j]? = some a ∧ bitAt K (i + j) = true ∧ (v : Int) ∈ a.2
  | [], i => by simp [someFrom]
  | a :: t, i => by
    rw [someFrom, Bool.or_eq_true, Bool.and_eq_true, someFrom_iff]
    constructor
    · rintro (⟨h1, h2⟩ | ⟨j, b, h1, h2, h3⟩)
      · exact ⟨0, a, rfl, h1, by simpa [has] using h2⟩
      · exact ⟨j + 1, b, h1, by rw [show i + (j + 1) = i + 1 + j by omega]; exact h2, h3⟩
    · rintro ⟨j, b, h1, h2, h3⟩
      cases j with
      | zero =>
        simp at h1
        subst h1
        exact .inl ⟨h2, by simpa [has] using h3⟩
      | succ j => exact .inr ⟨j, b, h1, by rw [show i + 1 + j = i + (j + 1) by omega]; exact h2, h3⟩

theorem bitsTo_nodup {x : Nat} : ∀ m, (bitsTo x m).Nodup ∧ ∀ v ∈ bitsTo x m, 0 ≤ v ∧ v < (m : Int)
  | 0 => ⟨List.nodup_nil, by simp [bitsTo]⟩
  | m + 1 => by
    obtain ⟨h1, h2⟩ := bitsTo_nodup (x := x) m
    cases hb : bitAt x m with
    | true =>
      rw [bitsTo_yes hb]
      refine ⟨List.nodup_append.2 ⟨h1, by simp, fun a ha b hb9 e => ?_⟩, fun v hv => ?_⟩
      · simp at hb9
        have := h2 a ha
        omega
      · rcases List.mem_append.1 hv with hv | hv
        · have := h2 v hv; omega
        · simp at hv; omega
    | false =>
      rw [bitsTo_no hb]
      exact ⟨h1, fun v hv => by have := h2 v hv; omega⟩

theorem varsOf_mem {db : DDb} {q : DQ} {n K : Nat} (hq : QOk q n) (v : Int) : v ∈ varsOf q K ↔ (0 ≤ v ∧ v < (n : Int) ∧ ∃ p ∈ evalRA db q K, v ∈ p.2) := by
  have key : (∃ p ∈ evalRA db q K, v ∈ p.2) ↔ ∃ i a, q.2[i]? = some a ∧ bitAt K i = true ∧ v ∈ a.2 := by
    rw [evalRA, zipRA_map]
    constructor
    · rintro ⟨p, hp, hv⟩
      obtain ⟨a, ha, rfl⟩ := List.mem_map.1 hp
      obtain ⟨i, _, h2, h3⟩ := pickTo_mem.1 ha
      exact ⟨i, a, h3, h2, hv⟩
    · rintro ⟨i, a, h1, h2, h3⟩
      exact ⟨_, List.mem_map.2 ⟨a, pickTo_mem.2 ⟨i, (List.getElem?_eq_some_iff.1 h1).1, h2, h1⟩, rfl⟩, h3⟩
  rw [key]
  have hb := hq.bits_lt K
  constructor
  · intro h
    have hr := (bitsTo_nodup (x := bitsOf q K) 4).2 v h
    obtain ⟨u, rfl⟩ := Int.eq_ofNat_of_zero_le hr.1
    have h1 : has (varsOf q K) (u : Int) = true := by simpa [has] using h
    rw [varsOf_has q (by omega)] at h1
    have h2 := hq.some K u
    rw [bitAt_testBit, h1] at h2
    obtain ⟨j, a, h3, h4, h5⟩ := someFrom_iff.1 h2.symm
    rw [List.drop_zero] at h3
    rw [Nat.zero_add] at h4
    exact ⟨hr.1, (hq.vars a (List.mem_of_getElem? h3) _ h5).2, j, a, h3, h4, h5⟩
  · rintro ⟨h0, hn, i, a, h1, h2, h3⟩
    obtain ⟨u, rfl⟩ := Int.eq_ofNat_of_zero_le h0
    have hu : u < 4 := by have := hq.le; omega
    have h4 := hq.some K u
    have h5 : someFrom K u 0 (q.2.drop 0) = true := someFrom_iff.2 ⟨i, a, by rw [List.drop_zero]; exact h1, by rw [Nat.zero_add]; exact h2, h3⟩
    rw [h5, bitAt_testBit] at h4
    have h6 : has (varsOf q K) (u : Int) = true := by rw [varsOf_has q hu]; exact h4
    simpa [has] using h6

theorem raTo_mem {db : DDb} {xs : List DA} {K j : Nat} {p : RA} (h : p ∈ raTo db xs K j) : ∃ a ∈ xs, p = ((lookT (look db a.1)).2.2, a.2) := by
  rw [raTo, zipRA_map] at h
  obtain ⟨a, ha, rfl⟩ := List.mem_map.1 h
  obtain ⟨i, _, _, h3⟩ := pickTo_mem.1 ha
  exact ⟨a, List.mem_of_getElem? h3, rfl⟩

theorem atom_fine {db : DDb} {q : DQ} {n : Nat} (h : queryFor db q = true) (hq : QOk q n) {a : DA} (hm : a ∈ q.2) : FineA n ((lookT (look db a.1)).2.2, a.2) := by
  obtain ⟨h1, h2⟩ := atom_fits h hm
  have hv : validQ q = true := by rw [queryFor, Bool.and_eq_true] at h; exact h.1
  exact ⟨validQ_nodup hv a hm, fun v hv => hq.vars a hm v hv, fun r hr => ⟨h2 r hr, (h1.row r hr).2⟩⟩

theorem joinTo_facts {db : DDb} {q : DQ} {n : Nat} (h : queryFor db q = true) (hq : QOk q n) (K : Nat) {j : Nat} (hj : j ≤ 4) : (joinAll n (raTo db q.2 K j)).length ≤ 4096 ∧ ∀ x ∈ joinAll n (raTo db q.2 K j), x.length = n := by
  refine ⟨?_, fun x hx => joinAll_row (fun p hp => ?_) hx⟩
  · have h1 := joinAll_len (n := n) (L := raTo db q.2 K j) (fun p hp => by
      obtain ⟨a, ha, rfl⟩ := raTo_mem hp
      exact (atom_fits h ha).1.len)
    have h2 := raTo_cnt db q.2 K j
    have h3 : 8 ^ (raTo db q.2 K j).length ≤ 8 ^ 4 := Nat.pow_le_pow_right (by omega) (by omega)
    omega
  · obtain ⟨a, ha, rfl⟩ := raTo_mem hp
    exact atom_fine h hq ha

theorem eval_one {db : DDb} {q : DQ} {n K : Nat} (h : queryFor db q = true) (hq : QOk q n) : canon ((joinAll n (evalRA db q K)).map (fun x => sel x (varsOf q K))) = (evalK db q K).2 :=
  answer_eq (evalRA_fine h hq) (bitsTo_nodup 4).1 (varsOf_mem hq)

theorem evalM_len (db : DDb) (q : DQ) (k : Int) : (evalM db q k).1.length ≤ 4 ∧ (evalM db q k).2.length ≤ 10000 ∧ ∀ r ∈ (evalM db q k).2, r.length ≤ 4 := by
  cases h : evalOk db q k with
  | false => rw [evalM_no h]; simp
  | true =>
    obtain ⟨_, _, K, rfl, _⟩ := evalOk_valid h
    rw [evalM_yes h]
    have h4 := varsOf_len q K
    refine ⟨h4, ?_, fun r hr => ?_⟩
    · have h1 := walkE_len (evalRA db q K) (varsOf q K) (varsOf q K).length []
      have h2 : 10 ^ (varsOf q K).length ≤ 10 ^ 4 := Nat.pow_le_pow_right (by omega) h4
      show (walkE _ _ _ _).length ≤ _
      omega
    · obtain ⟨s, hz, hs, _⟩ := walkE_mem.1 hr
      rw [hz, List.nil_append]
      omega

end Go.Proofs.YtpgfkjcekhifiaaGreat
