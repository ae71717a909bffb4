/- Texts joined for one claim: Draw8, For, Draw9, ViolP, DepPl, ViolI, ViolS. -/
import Derived.Test.YtpgfkjcekhifiaaGreatDoorQ66776059ca
import Derived.Test.YtpgfkjcekhifiaaGreatDoorQ6748bab5ad
import Derived.Test.YtpgfkjcekhifiaaGreatDoorQ172172a568
import Derived.Test.YtpgfkjcekhifiaaGreatDoorQ773e0f5bcd
import Derived.Test.YtpgfkjcekhifiaaGreatDoorQ54e7358e31
import Derived.Deep.RegionHeld3

namespace Go.Proofs.YtpgfkjcekhifiaaGreatDoor

open Go.RowKit

set_option linter.unusedVariables false

set_option linter.unusedSimpArgs false

set_option synthInstance.maxSize 2000

set_option synthInstance.maxHeartbeats 400000

theorem ints_litD (W : World) (xs : List Int) (hx : ∀ x ∈ xs, I64 x) (hl : xs.length ≤ 1000) : Ints (W.alloc (.cells (xs.map (fun x => Value.int .i64 x)).toArray 3)) (some ⟨W.heap.size, 0, none⟩) xs.length xs :=
  ⟨rfl, by omega, fun i hi => by
    refine ⟨W.heap.size, 0, rfl, ?_⟩
    rw [Nat.zero_add]
    have h := fresh_cells W (xs.map (fun x => Value.int .i64 x)) 3 i (.int .i64 (xs.getD i 0)) (by rw [List.getElem?_map, List.getD_eq_getElem?_getD, List.getElem?_eq_getElem hi]; rfl)
    rw [add_zero_addr] at h
    exact h, hx⟩

theorem i64_litsD {xs : List Int} (h : (xs.all fun x => decide (-9223372036854775808 ≤ x) && decide (x ≤ 9223372036854775807)) = true) : ∀ x ∈ xs, I64 x := fun x hx => by
  have := List.all_eq_true.1 h x hx
  simp only [Bool.and_eq_true, decide_eq_true_eq] at this
  exact this

theorem small_lits {xs : List Int} (h : (xs.all fun x => decide (0 ≤ x) && decide (x ≤ 100)) = true) {x : Int} (hx : x ∈ xs) : ∃ V : Nat, x = (V : Int) ∧ V ≤ 100 := by
  have := List.all_eq_true.1 h x hx
  simp only [Bool.and_eq_true, decide_eq_true_eq] at this
  exact ⟨x.toNat, by omega, by omega⟩

theorem oTl_some {lo hi : Nat} {w : World} {b : Option Addr} {n c : Nat} {xs : List DT} (h : Own oTl lo hi w [.slice b n c] xs) (hn : 0 < xs.length) : n = xs.length ∧ ∃ g, b = some ⟨g, 0, none⟩ := by
  obtain ⟨fp, ⟨v, css, fs, hv, rfl, h1, h2⟩, hn2, hb⟩ := h
  simp only [List.cons.injEq, and_true] at hv
  subst hv
  rcases h1.2 with ⟨h9, h0⟩ | ⟨g, cap, cur, hv', _, _, _, _, _, _⟩
  · omega
  · simp only [Value.slice.injEq] at hv'
    exact ⟨hv'.2.1, g, hv'.1⟩

def DbSt (w : World) (cb : Nat) (ba : Option Addr) (bn bc : Nat) (XB NB : Nat) (q : Nat) (wr : World) : Prop :=
  ∃ (b : Option Addr) (n c : Nat) (ts : List DT), ts.length = q ∧
    wr.cell? ⟨w.heap.size, 0, none⟩ = some (.slice none 0 0) ∧ wr.frozen? ⟨w.heap.size, 0, none⟩ = false ∧
    wr.cell? ⟨XB, 0, none⟩ = some (.slice b n c) ∧ wr.frozen? ⟨XB, 0, none⟩ = false ∧
    (wr.cell? ⟨NB, 0, none⟩ = some (.string (ByteArray.mk #[114])) ∧ wr.cell? ⟨NB, 1, none⟩ = some (.string (ByteArray.mk #[115])) ∧ wr.cell? ⟨NB, 2, none⟩ = some (.string (ByteArray.mk #[116])) ∧ wr.cell? ⟨NB, 3, none⟩ = some (.string (ByteArray.mk #[117])) ∧ wr.cell? ⟨NB, 4, none⟩ = some (.string (ByteArray.mk #[118]))) ∧
    Own oTl (NB + 1) wr.heap.size wr [.slice b n c] ts ∧ Cur wr cb ba bn bc ∧ Turn cb (cb + 1) w wr ∧ NB + 1 ≤ wr.heap.size

set_option maxRecDepth 100000 in
set_option maxHeartbeats 8000000 in
theorem l5Db_any (w : World) (cb : Nat) (ba : Option Addr) (bn bc : Nat) (HC : Cur w cb ba bn bc) (hcb : cb < w.heap.size) :
    Calls Tryz.prog 65 #[.pointer (some ⟨cb, 0, none⟩)] w fun e w' => ∃ (g n c : Nat) (ts : List DT), e = .returned (.agg #[.slice (some ⟨g, 0, none⟩) n c]) ∧ ts.length = 5 ∧ n = 5 ∧ Own oTl w.heap.size w'.heap.size w' [.slice (some ⟨g, 0, none⟩) n c] ts ∧ Cur w' cb ba bn bc ∧ Turn cb (cb + 1) w w' := by
  have ht0 : Turn cb (cb + 1) w w := (Kept.refl cb (cb + 1) w).turn
  go_enter Tryz.func65, Tryz.ntmps65
  obtain ⟨w1, hw1⟩ : ∃ W, W = w.alloc (.cells #[.slice none 0 0] 26) := ⟨_, rfl⟩
  have z1 : Below w.heap.size w w1 := by rw [hw1]; exact (Below.refl _ _).alloc (Nat.le_refl _) _
  have s1 : w1.heap.size = w.heap.size + 1 := by rw [hw1]; simp
  have hb1 := turn_on' ht0 (z1.mono (by omega))
  replace HC := HC.below' z1 (by omega)
  have R_0 : w1.cell? ⟨w.heap.size, 0, none⟩ = some (.slice none 0 0) := by rw [hw1]; exact box_cell (Below.refl _ _) rfl
  have R_f0 : w1.frozen? ⟨w.heap.size, 0, none⟩ = false := by rw [hw1]; exact box_frozen (Below.refl _ _)
  have raw1_R_0 := R_0
  have raw1_R_f0 := R_f0
  rw [hw1] at raw1_R_0 raw1_R_f0
  have h3 := ints_litD w1 [2, 3, 4, 6] (i64_litsD (by decide)) (by simp)
  obtain ⟨w2, hw2⟩ : ∃ W, W = w1.alloc (.cells #[.int .i64 2, .int .i64 3, .int .i64 4, .int .i64 6] 3) := ⟨_, rfl⟩
  have z2 : Below w1.heap.size w1 w2 := by rw [hw2]; exact (Below.refl _ _).alloc (Nat.le_refl _) _
  have s2 : w2.heap.size = w1.heap.size + 1 := by rw [hw2]; simp
  have hb2 := turn_on' hb1 (z2.mono (by omega))
  replace HC := HC.below' z2 (by omega)
  replace R_0 := bxc z2 R_0
  replace R_f0 := bxf z2 R_f0
  have e2 : w1.heap.size = w.heap.size + 1 := by omega
  have L_0 : w2.cell? ⟨w1.heap.size, 0, none⟩ = some (.int .i64 2) := by rw [hw2]; exact box_cell (Below.refl _ _) rfl
  have L_1 : w2.cell? ⟨w1.heap.size, 1, none⟩ = some (.int .i64 3) := by rw [hw2]; exact box_cell (Below.refl _ _) rfl
  have L_2 : w2.cell? ⟨w1.heap.size, 2, none⟩ = some (.int .i64 4) := by rw [hw2]; exact box_cell (Below.refl _ _) rfl
  have L_3 : w2.cell? ⟨w1.heap.size, 3, none⟩ = some (.int .i64 6) := by rw [hw2]; exact box_cell (Below.refl _ _) rfl
  rw [e2] at L_0 L_1 L_2 L_3
  have raw2_R_0 := R_0
  have raw2_R_f0 := R_f0
  have raw2_L_0 := L_0
  have raw2_L_1 := L_1
  have raw2_L_2 := L_2
  have raw2_L_3 := L_3
  rw [hw2, hw1] at raw2_R_0 raw2_R_f0 raw2_L_0 raw2_L_1 raw2_L_2 raw2_L_3
  replace h3 : Ints w2 (some ⟨w.heap.size + 1, 0, none⟩) 4 [2, 3, 4, 6] := by rw [hw2, show w.heap.size + 1 = w1.heap.size by omega]; exact h3
  clear L_0 L_1 L_2 L_3
  go_wp2_with fail
  rw [← hw1]
  rw [← hw2]
  clear hw2 hw1
  clear raw1_R_0 raw1_R_f0 raw2_R_0 raw2_R_f0 raw2_L_0 raw2_L_1 raw2_L_2 raw2_L_3
  have HC_o := HC
  clear HC
  refine (l1PickInt_any _ cb ba bn bc _ 4 4 _ (by omega) (by omega) h3 (by omega) HC_o).mono ?_
  rintro e w3 ⟨k0, rfl, hk0, HC, z3⟩
  clear HC_o
  have s4 := Nat.le_of_eq z3.size
  have s4' := Nat.le_of_eq z3.size.symm
  replace z3 := z3.turn
  have hb4 := hb2.trans z3
  replace R_0 := txc z3 R_0
  replace R_f0 := txf z3 R_f0
  clear h3
  obtain ⟨V, rfl, hV⟩ := small_lits (by decide) hk0
  clear hk0
  have h4 := ints_litD w3 [2, 4, 6, 8] (i64_litsD (by decide)) (by simp)
  obtain ⟨w5, hw5⟩ : ∃ W, W = w3.alloc (.cells #[.int .i64 2, .int .i64 4, .int .i64 6, .int .i64 8] 3) := ⟨_, rfl⟩
  have z5 : Below w3.heap.size w3 w5 := by rw [hw5]; exact (Below.refl _ _).alloc (Nat.le_refl _) _
  have s5 : w5.heap.size = w3.heap.size + 1 := by rw [hw5]; simp
  have hb5 := turn_on' hb4 (z5.mono (by omega))
  have old5_R_0 := R_0
  replace HC := HC.below' z5 (by omega)
  replace R_0 := bxc z5 R_0
  replace R_f0 := bxf z5 R_f0
  have L_0 : w5.cell? ⟨w3.heap.size, 0, none⟩ = some (.int .i64 2) := by rw [hw5]; exact box_cell (Below.refl _ _) rfl
  have L_1 : w5.cell? ⟨w3.heap.size, 1, none⟩ = some (.int .i64 4) := by rw [hw5]; exact box_cell (Below.refl _ _) rfl
  have L_2 : w5.cell? ⟨w3.heap.size, 2, none⟩ = some (.int .i64 6) := by rw [hw5]; exact box_cell (Below.refl _ _) rfl
  have L_3 : w5.cell? ⟨w3.heap.size, 3, none⟩ = some (.int .i64 8) := by rw [hw5]; exact box_cell (Below.refl _ _) rfl
  have raw5_R_0 := R_0
  have raw5_R_f0 := R_f0
  have raw5_L_0 := L_0
  have raw5_L_1 := L_1
  have raw5_L_2 := L_2
  have raw5_L_3 := L_3
  rw [hw5] at raw5_R_0 raw5_R_f0 raw5_L_0 raw5_L_1 raw5_L_2 raw5_L_3
  replace h4 : Ints w5 (some ⟨w3.heap.size, 0, none⟩) 4 [2, 4, 6, 8] := by rw [hw5]; exact h4
  clear L_0 L_1 L_2 L_3
  go_wp2_with fail
  rw [← hw5]
  clear hw5
  clear old5_R_0 raw5_R_0 raw5_R_f0 raw5_L_0 raw5_L_1 raw5_L_2 raw5_L_3
  have HC_o := HC
  clear HC
  refine (l1PickInt_any _ cb ba bn bc _ 4 4 _ (by omega) (by omega) h4 (by omega) HC_o).mono ?_
  rintro e w6 ⟨k1, rfl, hk1, HC, z6⟩
  clear HC_o
  have s7 := Nat.le_of_eq z6.size
  have s7' := Nat.le_of_eq z6.size.symm
  replace z6 := z6.turn
  have hb7 := hb5.trans z6
  replace R_0 := txc z6 R_0
  replace R_f0 := txf z6 R_f0
  clear h4
  obtain ⟨M, rfl, hM⟩ := small_lits (by decide) hk1
  clear hk1
  obtain ⟨w8, hw8⟩ : ∃ W, W = w6.alloc (.cells #[.slice none 0 0] 26) := ⟨_, rfl⟩
  have z8 : Below w6.heap.size w6 w8 := by rw [hw8]; exact (Below.refl _ _).alloc (Nat.le_refl _) _
  have s8 : w8.heap.size = w6.heap.size + 1 := by rw [hw8]; simp
  have hb8 := turn_on' hb7 (z8.mono (by omega))
  have old8_R_0 := R_0
  replace HC := HC.below' z8 (by omega)
  replace R_0 := bxc z8 R_0
  replace R_f0 := bxf z8 R_f0
  have X_0 : w8.cell? ⟨w6.heap.size, 0, none⟩ = some (.slice none 0 0) := by rw [hw8]; exact box_cell (Below.refl _ _) rfl
  have X_f0 : w8.frozen? ⟨w6.heap.size, 0, none⟩ = false := by rw [hw8]; exact box_frozen (Below.refl _ _)
  have raw8_R_0 := R_0
  have raw8_R_f0 := R_f0
  have raw8_X_0 := X_0
  have raw8_X_f0 := X_f0
  rw [hw8] at raw8_R_0 raw8_R_f0 raw8_X_0 raw8_X_f0
  obtain ⟨w9, hw9⟩ : ∃ W, W = w8.alloc (.cells #[.string (ByteArray.mk #[114]), .string (ByteArray.mk #[115]), .string (ByteArray.mk #[116]), .string (ByteArray.mk #[117]), .string (ByteArray.mk #[118])] 9) := ⟨_, rfl⟩
  have z9 : Below w8.heap.size w8 w9 := by rw [hw9]; exact (Below.refl _ _).alloc (Nat.le_refl _) _
  have s9 : w9.heap.size = w8.heap.size + 1 := by rw [hw9]; simp
  have hb9 := turn_on' hb8 (z9.mono (by omega))
  replace HC := HC.below' z9 (by omega)
  replace R_0 := bxc z9 R_0
  replace R_f0 := bxf z9 R_f0
  replace X_0 := bxc z9 X_0
  replace X_f0 := bxf z9 X_f0
  have e9 : w8.heap.size = w6.heap.size + 1 := by omega
  have N_0 : w9.cell? ⟨w8.heap.size, 0, none⟩ = some (.string (ByteArray.mk #[114])) := by rw [hw9]; exact box_cell (Below.refl _ _) rfl
  have N_1 : w9.cell? ⟨w8.heap.size, 1, none⟩ = some (.string (ByteArray.mk #[115])) := by rw [hw9]; exact box_cell (Below.refl _ _) rfl
  have N_2 : w9.cell? ⟨w8.heap.size, 2, none⟩ = some (.string (ByteArray.mk #[116])) := by rw [hw9]; exact box_cell (Below.refl _ _) rfl
  have N_3 : w9.cell? ⟨w8.heap.size, 3, none⟩ = some (.string (ByteArray.mk #[117])) := by rw [hw9]; exact box_cell (Below.refl _ _) rfl
  have N_4 : w9.cell? ⟨w8.heap.size, 4, none⟩ = some (.string (ByteArray.mk #[118])) := by rw [hw9]; exact box_cell (Below.refl _ _) rfl
  rw [e9] at N_0 N_1 N_2 N_3 N_4
  have raw9_R_0 := R_0
  have raw9_R_f0 := R_f0
  have raw9_X_0 := X_0
  have raw9_X_f0 := X_f0
  have raw9_N_0 := N_0
  have raw9_N_1 := N_1
  have raw9_N_2 := N_2
  have raw9_N_3 := N_3
  have raw9_N_4 := N_4
  rw [hw9, hw8] at raw9_R_0 raw9_R_f0 raw9_X_0 raw9_X_f0 raw9_N_0 raw9_N_1 raw9_N_2 raw9_N_3 raw9_N_4
  go_wp2_with fail
  rw [← hw8]
  rw [← hw9]
  clear hw9 hw8
  clear old8_R_0 raw8_R_0 raw8_R_f0 raw8_X_0 raw8_X_f0 raw9_R_0 raw9_R_f0 raw9_X_0 raw9_X_f0 raw9_N_0 raw9_N_1 raw9_N_2 raw9_N_3 raw9_N_4
  have HST : Hid (DbSt w cb ba bn bc w6.heap.size (w6.heap.size + 1) 0 w9) := Lib.hid ⟨none, 0, 0, [], rfl, R_0, R_f0, X_0, X_f0, ⟨N_0, N_1, N_2, N_3, N_4⟩, (own_nil_S (B := w6.heap.size + 1 + 1)).mono (Nat.le_refl _) (by omega), HC, hb9, by omega⟩
  have hxb : w.heap.size < w6.heap.size ∧ cb < w6.heap.size := by omega
  obtain ⟨xb, hxbe⟩ : ∃ q, q = w6.heap.size := ⟨_, rfl⟩
  clear R_0 R_f0 X_0 X_f0 N_0 N_1 N_2 N_3 N_4
  go_loopw [19] (fun i wr => ∃ q : Nat, q ≤ 5 ∧ i = .int .i64 (q : Int) ∧ Hid (DbSt w cb ba bn bc w6.heap.size (w6.heap.size + 1) q wr)) (fun i _ => 5 - (intOf i).toNat)
  case atStart => exact ⟨0, Nat.zero_le _, rfl, HST⟩
  case round =>
    clear HST
    obtain ⟨q, hq, rfl, HS⟩ := hrel
    obtain ⟨b, n, c, ts, htl, R_0, R_f0, X_0, X_f0, ⟨N_0, N_1, N_2, N_3, N_4⟩, ho, HC, hbt, hnb⟩ := HS.out
    clear HS
    obtain ⟨wo, rfl⟩ : ∃ W, W = wr := ⟨_, rfl⟩
    by_cases hlt : q < 5
    · rcases (by omega : q = 0 ∨ q = 1 ∨ q = 2 ∨ q = 3 ∨ q = 4) with rfl | rfl | rfl | rfl | rfl
      · have hq5 : ((0 : Nat) : Int) < 5 := by omega
        go_wp2_with fail
        obtain ⟨lo6, hlo6⟩ : ∃ q, q = wo.heap.size := ⟨_, rfl⟩
        rw [← hlo6] at ho
        have HC_o := HC
        clear HC
        refine (l4Tab_any _ cb ba bn bc (ByteArray.mk #[114]) 2 M V (by omega) (by omega) (by omega) HC_o (by omega)).mono ?_
        rintro e w10 ⟨b2, n2, c2, rows, rfl, ho2, hrl, hrr, HC, z10⟩
        clear HC_o
        have s11 := z10.size
        have hb11 := hbt.trans z10
        replace R_0 := txc z10 R_0
        replace R_f0 := txf z10 R_f0
        replace X_0 := txc z10 X_0
        replace X_f0 := txf z10 X_f0
        replace N_0 := txc z10 N_0
        replace N_1 := txc z10 N_1
        replace N_2 := txc z10 N_2
        replace N_3 := txc z10 N_3
        replace N_4 := txc z10 N_4
        have HO := Lib.hid (ho.turn z10 (by omega))
        clear hrr ho
        rw [← hlo6] at ho2
        obtain ⟨hi6, hhi6⟩ : ∃ q, q = w10.heap.size := ⟨_, rfl⟩
        rw [← hhi6] at ho2
        have hl6 : w6.heap.size + 1 + 1 ≤ lo6 := by omega
        have hl7 : lo6 ≤ hi6 := by omega
        have ho9 := HO.out
        clear HO
        obtain ⟨w12, hw12⟩ : ∃ W, W = w10.alloc (.cells #[.string (ByteArray.mk #[114]), .int .i64 2, .slice b2 n2 c2] 41) := ⟨_, rfl⟩
        have z12 : Below w10.heap.size w10 w12 := by rw [hw12]; exact (Below.refl _ _).alloc (Nat.le_refl _) _
        have s12 : w12.heap.size = w10.heap.size + 1 := by rw [hw12]; simp
        have hb12 := turn_on' hb11 (z12.mono (by omega))
        have old12_R_0 := R_0
        have old12_X_0 := X_0
        have old12_N_0 := N_0
        have old12_N_1 := N_1
        have old12_N_2 := N_2
        have old12_N_3 := N_3
        have old12_N_4 := N_4
        replace HC := HC.below' z12 (by omega)
        replace R_0 := bxc z12 R_0
        replace R_f0 := bxf z12 R_f0
        replace X_0 := bxc z12 X_0
        replace X_f0 := bxf z12 X_f0
        replace N_0 := bxc z12 N_0
        replace N_1 := bxc z12 N_1
        replace N_2 := bxc z12 N_2
        replace N_3 := bxc z12 N_3
        replace N_4 := bxc z12 N_4
        replace ho9 := ho9.below z12 (by omega)
        replace ho2 := ho2.below z12 (by omega)
        have T_0 : w12.cell? ⟨w10.heap.size, 0, none⟩ = some (.string (ByteArray.mk #[114])) := by rw [hw12]; exact box_cell (Below.refl _ _) rfl
        have T_1 : w12.cell? ⟨w10.heap.size, 1, none⟩ = some (.int .i64 2) := by rw [hw12]; exact box_cell (Below.refl _ _) rfl
        have T_2 : w12.cell? ⟨w10.heap.size, 2, none⟩ = some (.slice b2 n2 c2) := by rw [hw12]; exact box_cell (Below.refl _ _) rfl
        have raw12_R_0 := R_0
        have raw12_R_f0 := R_f0
        have raw12_X_0 := X_0
        have raw12_X_f0 := X_f0
        have raw12_N_0 := N_0
        have raw12_N_1 := N_1
        have raw12_N_2 := N_2
        have raw12_N_3 := N_3
        have raw12_N_4 := N_4
        have raw12_T_0 := T_0
        have raw12_T_1 := T_1
        have raw12_T_2 := T_2
        rw [hw12] at raw12_R_0 raw12_R_f0 raw12_X_0 raw12_X_f0 raw12_N_0 raw12_N_1 raw12_N_2 raw12_N_3 raw12_N_4 raw12_T_0 raw12_T_1 raw12_T_2
        have oTb : Own oT lo6 hi6 w12 [.string (ByteArray.mk #[114]), .int .i64 2, .slice b2 n2 c2] (ByteArray.mk #[114], 2, rows) := oT_mk (x := (ByteArray.mk #[114], 2, rows)) (show (ByteArray.mk #[114]).size ≤ 9223372036854775807 by decide) (show I64 2 by constructor <;> decide) ho2 (Nat.le_refl _) (Nat.le_refl _)
        obtain ⟨na, nn, nc, wn, hrn, on_, hzn, hzs, _⟩ := own_tab 24 ho9 oTb (by omega) (by omega) (by omega) (by omega) (by omega) rfl
        rw [s12] at hrn
        rw [hw12] at hrn
        clear ho2 ho9 oTb
        have s13 := hzn.size
        have hq13 := hzn.below (by omega)
        have hb13 := turn_on' hb12 (hq13.mono (by omega))
        replace HC := HC.below' hq13 (by omega)
        replace R_0 := txc hzn R_0
        replace R_f0 := txf hzn R_f0
        replace X_0 := txc hzn X_0
        replace X_f0 := txf hzn X_f0
        replace N_0 := txc hzn N_0
        replace N_1 := txc hzn N_1
        replace N_2 := txc hzn N_2
        replace N_3 := txc hzn N_3
        replace N_4 := txc hzn N_4
        have zS : Below w6.heap.size wn (wn.setCell ⟨w6.heap.size, 0, none⟩ (.slice na nn nc)) := Below.setCell (Below.refl _ _) (by simp only []; omega) _
        have HS2 : Hid (DbSt w cb ba bn bc w6.heap.size (w6.heap.size + 1) 1 (wn.setCell ⟨w6.heap.size, 0, none⟩ (.slice na nn nc))) := Lib.hid ⟨na, nn, nc, ts ++ [(ByteArray.mk #[114], 2, rows)], by rw [List.length_append, htl]; rfl,
          (zS.cell (p := ⟨w.heap.size, 0, none⟩) (by simp only []; omega)).trans R_0, (zS.frozen (p := ⟨w.heap.size, 0, none⟩) (by simp only []; omega)).trans R_f0, by simp [go_sem, X_0], by simp [go_sem, X_f0], ⟨World.cell?_of_block (a := ⟨w6.heap.size + 1, 0, none⟩) (Below.heap_setCell _ _ _ _ (by simp only []; omega)) |>.trans N_0, World.cell?_of_block (a := ⟨w6.heap.size + 1, 1, none⟩) (Below.heap_setCell _ _ _ _ (by simp only []; omega)) |>.trans N_1, World.cell?_of_block (a := ⟨w6.heap.size + 1, 2, none⟩) (Below.heap_setCell _ _ _ _ (by simp only []; omega)) |>.trans N_2, World.cell?_of_block (a := ⟨w6.heap.size + 1, 3, none⟩) (Below.heap_setCell _ _ _ _ (by simp only []; omega)) |>.trans N_3, World.cell?_of_block (a := ⟨w6.heap.size + 1, 4, none⟩) (Below.heap_setCell _ _ _ _ (by simp only []; omega)) |>.trans N_4⟩,
          (Own.setOut on_ rfl (by simp only []; omega)).mono (Nat.le_refl _) (by simp [World.setCell]), HC.below' zS (by omega), turn_on' hb13 (zS.mono (by omega)), by simp [World.setCell]; omega⟩
        clear on_ zS
        go_wp2_with ((at_builtin; refine wpList_app_run hrn rfl rfl rfl rfl rfl ?_))
        go_roundw
        case rel => exact ⟨1, by omega, by go_num, HS2⟩
        case measure => simp [intOf]
      · have hq5 : ((1 : Nat) : Int) < 5 := by omega
        go_wp2_with fail
        obtain ⟨lo6, hlo6⟩ : ∃ q, q = wo.heap.size := ⟨_, rfl⟩
        rw [← hlo6] at ho
        have HC_o := HC
        clear HC
        refine (l4Tab_any _ cb ba bn bc (ByteArray.mk #[115]) 2 M V (by omega) (by omega) (by omega) HC_o (by omega)).mono ?_
        rintro e w14 ⟨b2, n2, c2, rows, rfl, ho2, hrl, hrr, HC, z14⟩
        clear HC_o
        have s15 := z14.size
        have hb15 := hbt.trans z14
        replace R_0 := txc z14 R_0
        replace R_f0 := txf z14 R_f0
        replace X_0 := txc z14 X_0
        replace X_f0 := txf z14 X_f0
        replace N_0 := txc z14 N_0
        replace N_1 := txc z14 N_1
        replace N_2 := txc z14 N_2
        replace N_3 := txc z14 N_3
        replace N_4 := txc z14 N_4
        have HO := Lib.hid (ho.turn z14 (by omega))
        clear hrr ho
        rw [← hlo6] at ho2
        obtain ⟨hi6, hhi6⟩ : ∃ q, q = w14.heap.size := ⟨_, rfl⟩
        rw [← hhi6] at ho2
        have hl6 : w6.heap.size + 1 + 1 ≤ lo6 := by omega
        have hl7 : lo6 ≤ hi6 := by omega
        have ho9 := HO.out
        clear HO
        obtain ⟨w16, hw16⟩ : ∃ W, W = w14.alloc (.cells #[.string (ByteArray.mk #[115]), .int .i64 2, .slice b2 n2 c2] 41) := ⟨_, rfl⟩
        have z16 : Below w14.heap.size w14 w16 := by rw [hw16]; exact (Below.refl _ _).alloc (Nat.le_refl _) _
        have s16 : w16.heap.size = w14.heap.size + 1 := by rw [hw16]; simp
        have hb16 := turn_on' hb15 (z16.mono (by omega))
        have old16_R_0 := R_0
        have old16_X_0 := X_0
        have old16_N_0 := N_0
        have old16_N_1 := N_1
        have old16_N_2 := N_2
        have old16_N_3 := N_3
        have old16_N_4 := N_4
        replace HC := HC.below' z16 (by omega)
        replace R_0 := bxc z16 R_0
        replace R_f0 := bxf z16 R_f0
        replace X_0 := bxc z16 X_0
        replace X_f0 := bxf z16 X_f0
        replace N_0 := bxc z16 N_0
        replace N_1 := bxc z16 N_1
        replace N_2 := bxc z16 N_2
        replace N_3 := bxc z16 N_3
        replace N_4 := bxc z16 N_4
        replace ho9 := ho9.below z16 (by omega)
        replace ho2 := ho2.below z16 (by omega)
        have T_0 : w16.cell? ⟨w14.heap.size, 0, none⟩ = some (.string (ByteArray.mk #[115])) := by rw [hw16]; exact box_cell (Below.refl _ _) rfl
        have T_1 : w16.cell? ⟨w14.heap.size, 1, none⟩ = some (.int .i64 2) := by rw [hw16]; exact box_cell (Below.refl _ _) rfl
        have T_2 : w16.cell? ⟨w14.heap.size, 2, none⟩ = some (.slice b2 n2 c2) := by rw [hw16]; exact box_cell (Below.refl _ _) rfl
        have raw16_R_0 := R_0
        have raw16_R_f0 := R_f0
        have raw16_X_0 := X_0
        have raw16_X_f0 := X_f0
        have raw16_N_0 := N_0
        have raw16_N_1 := N_1
        have raw16_N_2 := N_2
        have raw16_N_3 := N_3
        have raw16_N_4 := N_4
        have raw16_T_0 := T_0
        have raw16_T_1 := T_1
        have raw16_T_2 := T_2
        rw [hw16] at raw16_R_0 raw16_R_f0 raw16_X_0 raw16_X_f0 raw16_N_0 raw16_N_1 raw16_N_2 raw16_N_3 raw16_N_4 raw16_T_0 raw16_T_1 raw16_T_2
        have oTb : Own oT lo6 hi6 w16 [.string (ByteArray.mk #[115]), .int .i64 2, .slice b2 n2 c2] (ByteArray.mk #[115], 2, rows) := oT_mk (x := (ByteArray.mk #[115], 2, rows)) (show (ByteArray.mk #[115]).size ≤ 9223372036854775807 by decide) (show I64 2 by constructor <;> decide) ho2 (Nat.le_refl _) (Nat.le_refl _)
        obtain ⟨na, nn, nc, wn, hrn, on_, hzn, hzs, _⟩ := own_tab 24 ho9 oTb (by omega) (by omega) (by omega) (by omega) (by omega) rfl
        rw [s16] at hrn
        rw [hw16] at hrn
        clear ho2 ho9 oTb
        have s17 := hzn.size
        have hq17 := hzn.below (by omega)
        have hb17 := turn_on' hb16 (hq17.mono (by omega))
        replace HC := HC.below' hq17 (by omega)
        replace R_0 := txc hzn R_0
        replace R_f0 := txf hzn R_f0
        replace X_0 := txc hzn X_0
        replace X_f0 := txf hzn X_f0
        replace N_0 := txc hzn N_0
        replace N_1 := txc hzn N_1
        replace N_2 := txc hzn N_2
        replace N_3 := txc hzn N_3
        replace N_4 := txc hzn N_4
        have zS : Below w6.heap.size wn (wn.setCell ⟨w6.heap.size, 0, none⟩ (.slice na nn nc)) := Below.setCell (Below.refl _ _) (by simp only []; omega) _
        have HS2 : Hid (DbSt w cb ba bn bc w6.heap.size (w6.heap.size + 1) 2 (wn.setCell ⟨w6.heap.size, 0, none⟩ (.slice na nn nc))) := Lib.hid ⟨na, nn, nc, ts ++ [(ByteArray.mk #[115], 2, rows)], by rw [List.length_append, htl]; rfl,
          (zS.cell (p := ⟨w.heap.size, 0, none⟩) (by simp only []; omega)).trans R_0, (zS.frozen (p := ⟨w.heap.size, 0, none⟩) (by simp only []; omega)).trans R_f0, by simp [go_sem, X_0], by simp [go_sem, X_f0], ⟨World.cell?_of_block (a := ⟨w6.heap.size + 1, 0, none⟩) (Below.heap_setCell _ _ _ _ (by simp only []; omega)) |>.trans N_0, World.cell?_of_block (a := ⟨w6.heap.size + 1, 1, none⟩) (Below.heap_setCell _ _ _ _ (by simp only []; omega)) |>.trans N_1, World.cell?_of_block (a := ⟨w6.heap.size + 1, 2, none⟩) (Below.heap_setCell _ _ _ _ (by simp only []; omega)) |>.trans N_2, World.cell?_of_block (a := ⟨w6.heap.size + 1, 3, none⟩) (Below.heap_setCell _ _ _ _ (by simp only []; omega)) |>.trans N_3, World.cell?_of_block (a := ⟨w6.heap.size + 1, 4, none⟩) (Below.heap_setCell _ _ _ _ (by simp only []; omega)) |>.trans N_4⟩,
          (Own.setOut on_ rfl (by simp only []; omega)).mono (Nat.le_refl _) (by simp [World.setCell]), HC.below' zS (by omega), turn_on' hb17 (zS.mono (by omega)), by simp [World.setCell]; omega⟩
        clear on_ zS
        go_wp2_with ((at_builtin; refine wpList_app_run hrn rfl rfl rfl rfl rfl ?_))
        go_roundw
        case rel => exact ⟨2, by omega, by go_num, HS2⟩
        case measure => simp [intOf]
      · have hq5 : ((2 : Nat) : Int) < 5 := by omega
        go_wp2_with fail
        obtain ⟨lo6, hlo6⟩ : ∃ q, q = wo.heap.size := ⟨_, rfl⟩
        rw [← hlo6] at ho
        have HC_o := HC
        clear HC
        refine (l4Tab_any _ cb ba bn bc (ByteArray.mk #[116]) 2 M V (by omega) (by omega) (by omega) HC_o (by omega)).mono ?_
        rintro e w18 ⟨b2, n2, c2, rows, rfl, ho2, hrl, hrr, HC, z18⟩
        clear HC_o
        have s19 := z18.size
        have hb19 := hbt.trans z18
        replace R_0 := txc z18 R_0
        replace R_f0 := txf z18 R_f0
        replace X_0 := txc z18 X_0
        replace X_f0 := txf z18 X_f0
        replace N_0 := txc z18 N_0
        replace N_1 := txc z18 N_1
        replace N_2 := txc z18 N_2
        replace N_3 := txc z18 N_3
        replace N_4 := txc z18 N_4
        have HO := Lib.hid (ho.turn z18 (by omega))
        clear hrr ho
        rw [← hlo6] at ho2
        obtain ⟨hi6, hhi6⟩ : ∃ q, q = w18.heap.size := ⟨_, rfl⟩
        rw [← hhi6] at ho2
        have hl6 : w6.heap.size + 1 + 1 ≤ lo6 := by omega
        have hl7 : lo6 ≤ hi6 := by omega
        have ho9 := HO.out
        clear HO
        obtain ⟨w20, hw20⟩ : ∃ W, W = w18.alloc (.cells #[.string (ByteArray.mk #[116]), .int .i64 2, .slice b2 n2 c2] 41) := ⟨_, rfl⟩
        have z20 : Below w18.heap.size w18 w20 := by rw [hw20]; exact (Below.refl _ _).alloc (Nat.le_refl _) _
        have s20 : w20.heap.size = w18.heap.size + 1 := by rw [hw20]; simp
        have hb20 := turn_on' hb19 (z20.mono (by omega))
        have old20_R_0 := R_0
        have old20_X_0 := X_0
        have old20_N_0 := N_0
        have old20_N_1 := N_1
        have old20_N_2 := N_2
        have old20_N_3 := N_3
        have old20_N_4 := N_4
        replace HC := HC.below' z20 (by omega)
        replace R_0 := bxc z20 R_0
        replace R_f0 := bxf z20 R_f0
        replace X_0 := bxc z20 X_0
        replace X_f0 := bxf z20 X_f0
        replace N_0 := bxc z20 N_0
        replace N_1 := bxc z20 N_1
        replace N_2 := bxc z20 N_2
        replace N_3 := bxc z20 N_3
        replace N_4 := bxc z20 N_4
        replace ho9 := ho9.below z20 (by omega)
        replace ho2 := ho2.below z20 (by omega)
        have T_0 : w20.cell? ⟨w18.heap.size, 0, none⟩ = some (.string (ByteArray.mk #[116])) := by rw [hw20]; exact box_cell (Below.refl _ _) rfl
        have T_1 : w20.cell? ⟨w18.heap.size, 1, none⟩ = some (.int .i64 2) := by rw [hw20]; exact box_cell (Below.refl _ _) rfl
        have T_2 : w20.cell? ⟨w18.heap.size, 2, none⟩ = some (.slice b2 n2 c2) := by rw [hw20]; exact box_cell (Below.refl _ _) rfl
        have raw20_R_0 := R_0
        have raw20_R_f0 := R_f0
        have raw20_X_0 := X_0
        have raw20_X_f0 := X_f0
        have raw20_N_0 := N_0
        have raw20_N_1 := N_1
        have raw20_N_2 := N_2
        have raw20_N_3 := N_3
        have raw20_N_4 := N_4
        have raw20_T_0 := T_0
        have raw20_T_1 := T_1
        have raw20_T_2 := T_2
        rw [hw20] at raw20_R_0 raw20_R_f0 raw20_X_0 raw20_X_f0 raw20_N_0 raw20_N_1 raw20_N_2 raw20_N_3 raw20_N_4 raw20_T_0 raw20_T_1 raw20_T_2
        have oTb : Own oT lo6 hi6 w20 [.string (ByteArray.mk #[116]), .int .i64 2, .slice b2 n2 c2] (ByteArray.mk #[116], 2, rows) := oT_mk (x := (ByteArray.mk #[116], 2, rows)) (show (ByteArray.mk #[116]).size ≤ 9223372036854775807 by decide) (show I64 2 by constructor <;> decide) ho2 (Nat.le_refl _) (Nat.le_refl _)
        obtain ⟨na, nn, nc, wn, hrn, on_, hzn, hzs, _⟩ := own_tab 24 ho9 oTb (by omega) (by omega) (by omega) (by omega) (by omega) rfl
        rw [s20] at hrn
        rw [hw20] at hrn
        clear ho2 ho9 oTb
        have s21 := hzn.size
        have hq21 := hzn.below (by omega)
        have hb21 := turn_on' hb20 (hq21.mono (by omega))
        replace HC := HC.below' hq21 (by omega)
        replace R_0 := txc hzn R_0
        replace R_f0 := txf hzn R_f0
        replace X_0 := txc hzn X_0
        replace X_f0 := txf hzn X_f0
        replace N_0 := txc hzn N_0
        replace N_1 := txc hzn N_1
        replace N_2 := txc hzn N_2
        replace N_3 := txc hzn N_3
        replace N_4 := txc hzn N_4
        have zS : Below w6.heap.size wn (wn.setCell ⟨w6.heap.size, 0, none⟩ (.slice na nn nc)) := Below.setCell (Below.refl _ _) (by simp only []; omega) _
        have HS2 : Hid (DbSt w cb ba bn bc w6.heap.size (w6.heap.size + 1) 3 (wn.setCell ⟨w6.heap.size, 0, none⟩ (.slice na nn nc))) := Lib.hid ⟨na, nn, nc, ts ++ [(ByteArray.mk #[116], 2, rows)], by rw [List.length_append, htl]; rfl,
          (zS.cell (p := ⟨w.heap.size, 0, none⟩) (by simp only []; omega)).trans R_0, (zS.frozen (p := ⟨w.heap.size, 0, none⟩) (by simp only []; omega)).trans R_f0, by simp [go_sem, X_0], by simp [go_sem, X_f0], ⟨World.cell?_of_block (a := ⟨w6.heap.size + 1, 0, none⟩) (Below.heap_setCell _ _ _ _ (by simp only []; omega)) |>.trans N_0, World.cell?_of_block (a := ⟨w6.heap.size + 1, 1, none⟩) (Below.heap_setCell _ _ _ _ (by simp only []; omega)) |>.trans N_1, World.cell?_of_block (a := ⟨w6.heap.size + 1, 2, none⟩) (Below.heap_setCell _ _ _ _ (by simp only []; omega)) |>.trans N_2, World.cell?_of_block (a := ⟨w6.heap.size + 1, 3, none⟩) (Below.heap_setCell _ _ _ _ (by simp only []; omega)) |>.trans N_3, World.cell?_of_block (a := ⟨w6.heap.size + 1, 4, none⟩) (Below.heap_setCell _ _ _ _ (by simp only []; omega)) |>.trans N_4⟩,
          (Own.setOut on_ rfl (by simp only []; omega)).mono (Nat.le_refl _) (by simp [World.setCell]), HC.below' zS (by omega), turn_on' hb21 (zS.mono (by omega)), by simp [World.setCell]; omega⟩
        clear on_ zS
        go_wp2_with ((at_builtin; refine wpList_app_run hrn rfl rfl rfl rfl rfl ?_))
        go_roundw
        case rel => exact ⟨3, by omega, by go_num, HS2⟩
        case measure => simp [intOf]
      · have hq5 : ((3 : Nat) : Int) < 5 := by omega
        go_wp2_with fail
        obtain ⟨lo6, hlo6⟩ : ∃ q, q = wo.heap.size := ⟨_, rfl⟩
        rw [← hlo6] at ho
        have HC_o := HC
        clear HC
        refine (l4Tab_any _ cb ba bn bc (ByteArray.mk #[117]) 3 M V (by omega) (by omega) (by omega) HC_o (by omega)).mono ?_
        rintro e w22 ⟨b2, n2, c2, rows, rfl, ho2, hrl, hrr, HC, z22⟩
        clear HC_o
        have s23 := z22.size
        have hb23 := hbt.trans z22
        replace R_0 := txc z22 R_0
        replace R_f0 := txf z22 R_f0
        replace X_0 := txc z22 X_0
        replace X_f0 := txf z22 X_f0
        replace N_0 := txc z22 N_0
        replace N_1 := txc z22 N_1
        replace N_2 := txc z22 N_2
        replace N_3 := txc z22 N_3
        replace N_4 := txc z22 N_4
        have HO := Lib.hid (ho.turn z22 (by omega))
        clear hrr ho
        rw [← hlo6] at ho2
        obtain ⟨hi6, hhi6⟩ : ∃ q, q = w22.heap.size := ⟨_, rfl⟩
        rw [← hhi6] at ho2
        have hl6 : w6.heap.size + 1 + 1 ≤ lo6 := by omega
        have hl7 : lo6 ≤ hi6 := by omega
        have ho9 := HO.out
        clear HO
        obtain ⟨w24, hw24⟩ : ∃ W, W = w22.alloc (.cells #[.string (ByteArray.mk #[117]), .int .i64 3, .slice b2 n2 c2] 41) := ⟨_, rfl⟩
        have z24 : Below w22.heap.size w22 w24 := by rw [hw24]; exact (Below.refl _ _).alloc (Nat.le_refl _) _
        have s24 : w24.heap.size = w22.heap.size + 1 := by rw [hw24]; simp
        have hb24 := turn_on' hb23 (z24.mono (by omega))
        have old24_R_0 := R_0
        have old24_X_0 := X_0
        have old24_N_0 := N_0
        have old24_N_1 := N_1
        have old24_N_2 := N_2
        have old24_N_3 := N_3
        have old24_N_4 := N_4
        replace HC := HC.below' z24 (by omega)
        replace R_0 := bxc z24 R_0
        replace R_f0 := bxf z24 R_f0
        replace X_0 := bxc z24 X_0
        replace X_f0 := bxf z24 X_f0
        replace N_0 := bxc z24 N_0
        replace N_1 := bxc z24 N_1
        replace N_2 := bxc z24 N_2
        replace N_3 := bxc z24 N_3
        replace N_4 := bxc z24 N_4
        replace ho9 := ho9.below z24 (by omega)
        replace ho2 := ho2.below z24 (by omega)
        have T_0 : w24.cell? ⟨w22.heap.size, 0, none⟩ = some (.string (ByteArray.mk #[117])) := by rw [hw24]; exact box_cell (Below.refl _ _) rfl
        have T_1 : w24.cell? ⟨w22.heap.size, 1, none⟩ = some (.int .i64 3) := by rw [hw24]; exact box_cell (Below.refl _ _) rfl
        have T_2 : w24.cell? ⟨w22.heap.size, 2, none⟩ = some (.slice b2 n2 c2) := by rw [hw24]; exact box_cell (Below.refl _ _) rfl
        have raw24_R_0 := R_0
        have raw24_R_f0 := R_f0
        have raw24_X_0 := X_0
        have raw24_X_f0 := X_f0
        have raw24_N_0 := N_0
        have raw24_N_1 := N_1
        have raw24_N_2 := N_2
        have raw24_N_3 := N_3
        have raw24_N_4 := N_4
        have raw24_T_0 := T_0
        have raw24_T_1 := T_1
        have raw24_T_2 := T_2
        rw [hw24] at raw24_R_0 raw24_R_f0 raw24_X_0 raw24_X_f0 raw24_N_0 raw24_N_1 raw24_N_2 raw24_N_3 raw24_N_4 raw24_T_0 raw24_T_1 raw24_T_2
        have oTb : Own oT lo6 hi6 w24 [.string (ByteArray.mk #[117]), .int .i64 3, .slice b2 n2 c2] (ByteArray.mk #[117], 3, rows) := oT_mk (x := (ByteArray.mk #[117], 3, rows)) (show (ByteArray.mk #[117]).size ≤ 9223372036854775807 by decide) (show I64 3 by constructor <;> decide) ho2 (Nat.le_refl _) (Nat.le_refl _)
        obtain ⟨na, nn, nc, wn, hrn, on_, hzn, hzs, _⟩ := own_tab 24 ho9 oTb (by omega) (by omega) (by omega) (by omega) (by omega) rfl
        rw [s24] at hrn
        rw [hw24] at hrn
        clear ho2 ho9 oTb
        have s25 := hzn.size
        have hq25 := hzn.below (by omega)
        have hb25 := turn_on' hb24 (hq25.mono (by omega))
        replace HC := HC.below' hq25 (by omega)
        replace R_0 := txc hzn R_0
        replace R_f0 := txf hzn R_f0
        replace X_0 := txc hzn X_0
        replace X_f0 := txf hzn X_f0
        replace N_0 := txc hzn N_0
        replace N_1 := txc hzn N_1
        replace N_2 := txc hzn N_2
        replace N_3 := txc hzn N_3
        replace N_4 := txc hzn N_4
        have zS : Below w6.heap.size wn (wn.setCell ⟨w6.heap.size, 0, none⟩ (.slice na nn nc)) := Below.setCell (Below.refl _ _) (by simp only []; omega) _
        have HS2 : Hid (DbSt w cb ba bn bc w6.heap.size (w6.heap.size + 1) 4 (wn.setCell ⟨w6.heap.size, 0, none⟩ (.slice na nn nc))) := Lib.hid ⟨na, nn, nc, ts ++ [(ByteArray.mk #[117], 3, rows)], by rw [List.length_append, htl]; rfl,
          (zS.cell (p := ⟨w.heap.size, 0, none⟩) (by simp only []; omega)).trans R_0, (zS.frozen (p := ⟨w.heap.size, 0, none⟩) (by simp only []; omega)).trans R_f0, by simp [go_sem, X_0], by simp [go_sem, X_f0], ⟨World.cell?_of_block (a := ⟨w6.heap.size + 1, 0, none⟩) (Below.heap_setCell _ _ _ _ (by simp only []; omega)) |>.trans N_0, World.cell?_of_block (a := ⟨w6.heap.size + 1, 1, none⟩) (Below.heap_setCell _ _ _ _ (by simp only []; omega)) |>.trans N_1, World.cell?_of_block (a := ⟨w6.heap.size + 1, 2, none⟩) (Below.heap_setCell _ _ _ _ (by simp only []; omega)) |>.trans N_2, World.cell?_of_block (a := ⟨w6.heap.size + 1, 3, none⟩) (Below.heap_setCell _ _ _ _ (by simp only []; omega)) |>.trans N_3, World.cell?_of_block (a := ⟨w6.heap.size + 1, 4, none⟩) (Below.heap_setCell _ _ _ _ (by simp only []; omega)) |>.trans N_4⟩,
          (Own.setOut on_ rfl (by simp only []; omega)).mono (Nat.le_refl _) (by simp [World.setCell]), HC.below' zS (by omega), turn_on' hb25 (zS.mono (by omega)), by simp [World.setCell]; omega⟩
        clear on_ zS
        go_wp2_with ((at_builtin; refine wpList_app_run hrn rfl rfl rfl rfl rfl ?_))
        go_roundw
        case rel => exact ⟨4, by omega, by go_num, HS2⟩
        case measure => simp [intOf]
      · have hq5 : ((4 : Nat) : Int) < 5 := by omega
        go_wp2_with fail
        obtain ⟨lo6, hlo6⟩ : ∃ q, q = wo.heap.size := ⟨_, rfl⟩
        rw [← hlo6] at ho
        have HC_o := HC
        clear HC
        refine (l4Tab_any _ cb ba bn bc (ByteArray.mk #[118]) 1 M V (by omega) (by omega) (by omega) HC_o (by omega)).mono ?_
        rintro e w26 ⟨b2, n2, c2, rows, rfl, ho2, hrl, hrr, HC, z26⟩
        clear HC_o
        have s27 := z26.size
        have hb27 := hbt.trans z26
        replace R_0 := txc z26 R_0
        replace R_f0 := txf z26 R_f0
        replace X_0 := txc z26 X_0
        replace X_f0 := txf z26 X_f0
        replace N_0 := txc z26 N_0
        replace N_1 := txc z26 N_1
        replace N_2 := txc z26 N_2
        replace N_3 := txc z26 N_3
        replace N_4 := txc z26 N_4
        have HO := Lib.hid (ho.turn z26 (by omega))
        clear hrr ho
        rw [← hlo6] at ho2
        obtain ⟨hi6, hhi6⟩ : ∃ q, q = w26.heap.size := ⟨_, rfl⟩
        rw [← hhi6] at ho2
        have hl6 : w6.heap.size + 1 + 1 ≤ lo6 := by omega
        have hl7 : lo6 ≤ hi6 := by omega
        have ho9 := HO.out
        clear HO
        obtain ⟨w28, hw28⟩ : ∃ W, W = w26.alloc (.cells #[.string (ByteArray.mk #[118]), .int .i64 1, .slice b2 n2 c2] 41) := ⟨_, rfl⟩
        have z28 : Below w26.heap.size w26 w28 := by rw [hw28]; exact (Below.refl _ _).alloc (Nat.le_refl _) _
        have s28 : w28.heap.size = w26.heap.size + 1 := by rw [hw28]; simp
        have hb28 := turn_on' hb27 (z28.mono (by omega))
        have old28_R_0 := R_0
        have old28_X_0 := X_0
        have old28_N_0 := N_0
        have old28_N_1 := N_1
        have old28_N_2 := N_2
        have old28_N_3 := N_3
        have old28_N_4 := N_4
        replace HC := HC.below' z28 (by omega)
        replace R_0 := bxc z28 R_0
        replace R_f0 := bxf z28 R_f0
        replace X_0 := bxc z28 X_0
        replace X_f0 := bxf z28 X_f0
        replace N_0 := bxc z28 N_0
        replace N_1 := bxc z28 N_1
        replace N_2 := bxc z28 N_2
        replace N_3 := bxc z28 N_3
        replace N_4 := bxc z28 N_4
        replace ho9 := ho9.below z28 (by omega)
        replace ho2 := ho2.below z28 (by omega)
        have T_0 : w28.cell? ⟨w26.heap.size, 0, none⟩ = some (.string (ByteArray.mk #[118])) := by rw [hw28]; exact box_cell (Below.refl _ _) rfl
        have T_1 : w28.cell? ⟨w26.heap.size, 1, none⟩ = some (.int .i64 1) := by rw [hw28]; exact box_cell (Below.refl _ _) rfl
        have T_2 : w28.cell? ⟨w26.heap.size, 2, none⟩ = some (.slice b2 n2 c2) := by rw [hw28]; exact box_cell (Below.refl _ _) rfl
        have raw28_R_0 := R_0
        have raw28_R_f0 := R_f0
        have raw28_X_0 := X_0
        have raw28_X_f0 := X_f0
        have raw28_N_0 := N_0
        have raw28_N_1 := N_1
        have raw28_N_2 := N_2
        have raw28_N_3 := N_3
        have raw28_N_4 := N_4
        have raw28_T_0 := T_0
        have raw28_T_1 := T_1
        have raw28_T_2 := T_2
        rw [hw28] at raw28_R_0 raw28_R_f0 raw28_X_0 raw28_X_f0 raw28_N_0 raw28_N_1 raw28_N_2 raw28_N_3 raw28_N_4 raw28_T_0 raw28_T_1 raw28_T_2
        have oTb : Own oT lo6 hi6 w28 [.string (ByteArray.mk #[118]), .int .i64 1, .slice b2 n2 c2] (ByteArray.mk #[118], 1, rows) := oT_mk (x := (ByteArray.mk #[118], 1, rows)) (show (ByteArray.mk #[118]).size ≤ 9223372036854775807 by decide) (show I64 1 by constructor <;> decide) ho2 (Nat.le_refl _) (Nat.le_refl _)
        obtain ⟨na, nn, nc, wn, hrn, on_, hzn, hzs, _⟩ := own_tab 24 ho9 oTb (by omega) (by omega) (by omega) (by omega) (by omega) rfl
        rw [s28] at hrn
        rw [hw28] at hrn
        clear ho2 ho9 oTb
        have s29 := hzn.size
        have hq29 := hzn.below (by omega)
        have hb29 := turn_on' hb28 (hq29.mono (by omega))
        replace HC := HC.below' hq29 (by omega)
        replace R_0 := txc hzn R_0
        replace R_f0 := txf hzn R_f0
        replace X_0 := txc hzn X_0
        replace X_f0 := txf hzn X_f0
        replace N_0 := txc hzn N_0
        replace N_1 := txc hzn N_1
        replace N_2 := txc hzn N_2
        replace N_3 := txc hzn N_3
        replace N_4 := txc hzn N_4
        have zS : Below w6.heap.size wn (wn.setCell ⟨w6.heap.size, 0, none⟩ (.slice na nn nc)) := Below.setCell (Below.refl _ _) (by simp only []; omega) _
        have HS2 : Hid (DbSt w cb ba bn bc w6.heap.size (w6.heap.size + 1) 5 (wn.setCell ⟨w6.heap.size, 0, none⟩ (.slice na nn nc))) := Lib.hid ⟨na, nn, nc, ts ++ [(ByteArray.mk #[118], 1, rows)], by rw [List.length_append, htl]; rfl,
          (zS.cell (p := ⟨w.heap.size, 0, none⟩) (by simp only []; omega)).trans R_0, (zS.frozen (p := ⟨w.heap.size, 0, none⟩) (by simp only []; omega)).trans R_f0, by simp [go_sem, X_0], by simp [go_sem, X_f0], ⟨World.cell?_of_block (a := ⟨w6.heap.size + 1, 0, none⟩) (Below.heap_setCell _ _ _ _ (by simp only []; omega)) |>.trans N_0, World.cell?_of_block (a := ⟨w6.heap.size + 1, 1, none⟩) (Below.heap_setCell _ _ _ _ (by simp only []; omega)) |>.trans N_1, World.cell?_of_block (a := ⟨w6.heap.size + 1, 2, none⟩) (Below.heap_setCell _ _ _ _ (by simp only []; omega)) |>.trans N_2, World.cell?_of_block (a := ⟨w6.heap.size + 1, 3, none⟩) (Below.heap_setCell _ _ _ _ (by simp only []; omega)) |>.trans N_3, World.cell?_of_block (a := ⟨w6.heap.size + 1, 4, none⟩) (Below.heap_setCell _ _ _ _ (by simp only []; omega)) |>.trans N_4⟩,
          (Own.setOut on_ rfl (by simp only []; omega)).mono (Nat.le_refl _) (by simp [World.setCell]), HC.below' zS (by omega), turn_on' hb29 (zS.mono (by omega)), by simp [World.setCell]; omega⟩
        clear on_ zS
        go_wp2_with ((at_builtin; refine wpList_app_run hrn rfl rfl rfl rfl rfl ?_))
        go_roundw
        case rel => exact ⟨5, by omega, by go_num, HS2⟩
        case measure => simp [intOf]
    · obtain rfl : q = 5 := by omega
      clear N_0 N_1 N_2 N_3 N_4
      obtain ⟨hnn, g, rfl⟩ := oTl_some ho (by omega)
      rw [htl] at hnn
      subst hnn
      obtain ⟨hi6, hhi6⟩ : ∃ q, q = wo.heap.size := ⟨_, rfl⟩
      rw [← hhi6] at ho
      go_wp2_with fail
      have HC_o := HC
      clear HC
      refine (l1Once_any _ cb ba bn bc 8 (by omega) HC_o).mono ?_
      rintro e w30 ⟨t9, rfl, HC, z30⟩
      clear HC_o
      have s31 := Nat.le_of_eq z30.size
      have s31' := Nat.le_of_eq z30.size.symm
      replace z30 := z30.turn
      have hb31 := hbt.trans z30
      replace R_0 := txc z30 R_0
      replace R_f0 := txf z30 R_f0
      replace X_0 := txc z30 X_0
      replace X_f0 := txf z30 X_f0
      replace ho := ho.turn z30 (by omega)
      cases t9 with
      | false =>
        go_wp2_with fail
        refine bodyPost_ret (v := .agg #[.slice (some ⟨g, 0, none⟩) 5 c]) (by simp [results, Tryz.results65, go_sem, R_0, R_f0]) rfl ⟨g, 5, c, ts, rfl, htl, rfl, ?_, ?_, ?_⟩
        · refine Own.mono (lo := w6.heap.size + 1 + 1) (hi := hi6) ?_ (by omega) (by simp [World.setCell]; omega)
          repeat (refine own_off ?_ rfl (by simp only []; omega))
          exact ho
        · refine Cur.below' (C := w.heap.size) HC ?_ hcb
          repeat (refine Below.setCell ?_ (by simp only []; omega) _)
          exact Below.refl _ _
        · refine turn_on' hb31 ?_
          repeat (refine Below.setCell ?_ (by simp only []; omega) _)
          exact Below.refl _ _
      | true =>
        go_wp2_with fail
        have hdr : Below w30.heap.size w30 w30.drew := (Below.refl _ _).drew
        refine wp_region_noPanic ?_
        refine wp_region_held_drew (S := (fun W => W.cell? ⟨w6.heap.size, 0, none⟩ = some (.slice (some ⟨g, 0, none⟩) 5 c))) (by kernel_rfl) ?hS32 (fun hHeld => ?_)
        case hS32 => exact X_0
        refine wpAnyH_take (i := 0) (v := ?v0_33) rfl (by kernel_rfl) (by kernel_rfl) (by kernel_rfl) (fun _ _ _ h => h) (Or.inl ⟨by rfl, ?hy0_33⟩) (by assumption) ?rest0_33
        case hy0_33 => intro w hSw; (try dsimp only at hSw); go_simp; (try with_reducible rfl)
        try simp only [Act.put, lgA, lgB, lgC, lgD, lgE, lgF]
        refine wpAnyH_take (i := 1) (v := ?v1_34) rfl (by kernel_rfl) (by kernel_rfl) (by kernel_rfl) (fun _ _ _ h => h) (Or.inl ⟨by rfl, ?hy1_34⟩) (by assumption) ?rest1_34
        case hy1_34 => intro w hSw; (try dsimp only at hSw); go_simp; (try with_reducible rfl)
        try simp only [Act.put, lgA, lgB, lgC, lgD, lgE, lgF]
        refine wpAnyH_take (i := 2) (v := ?v2_35) rfl (by kernel_rfl) (by kernel_rfl) (by kernel_rfl) (fun _ _ _ h => h) (Or.inl ⟨by rfl, ?hy2_35⟩) (by assumption) ?rest2_35
        case hy2_35 => intro w hSw; (try dsimp only at hSw); go_simp; (try with_reducible rfl)
        try simp only [Act.put, lgA, lgB, lgC, lgD, lgE, lgF]
        refine wpAnyH_ready (rs := [3]) (by kernel_rfl) (by simp) ?_
        refine AllReadyH.cons rfl (fun K hK => ?_) AllReadyH.nil
        go_simp; (refine (l1Below_any _ cb ba bn bc 5 (by omega) (HC.below' hdr (by omega))).mono ?_); rintro e wA ⟨x, rfl, hx0, hx1, hx2, HC2, kA⟩; have tA : Turn cb (cb + 1) w30 wA := (turn_below hdr (Nat.le_refl _)).trans kA.turn; have sA := tA.size; have hbA := hb31.trans tA; have ho2 := ho.turn tA (by omega); have x2 := (tA.cell (p := ⟨w6.heap.size, 0, none⟩) (by simp only []; omega) (by simp only []; omega)).trans X_0; have xf2 := (tA.frozen (p := ⟨w6.heap.size, 0, none⟩) (by simp only []; omega) (by simp only []; omega)).trans X_f0; have r2 := (tA.cell (p := ⟨w.heap.size, 0, none⟩) (by simp only []; omega) (by simp only []; omega)).trans R_0; have rf2 := (tA.frozen (p := ⟨w.heap.size, 0, none⟩) (by simp only []; omega) (by simp only []; omega)).trans R_f0; obtain ⟨kx, rfl⟩ := Int.eq_ofNat_of_zero_le hx0; have hkx : kx < 5 := by { have := hx1 (by omega); omega }; clear hx0 hx1 hx2 kA tA X_0 X_f0 R_0 R_f0 ho HC
        refine hK.out _ _ ?_ (fun hHeld => ?_)
        · exact x2
        clear hK K
        try simp only [Act.put, List.setIfInBounds_toArray, List.set_cons_zero, List.set_cons_succ]
        have hkx5 : (kx : Int) < 5 := by omega
        refine wpAnyH_take (i := 4) (v := ?v4_36) rfl (by kernel_rfl) (by kernel_rfl) (by kernel_rfl) (fun _ _ _ h => h) (Or.inl ⟨by rfl, ?hy4_36⟩) (by assumption) ?rest4_36
        case hy4_36 => intro w hSw; (try dsimp only at hSw); go_simp; (try with_reducible rfl)
        try simp only [Act.put, lgA, lgB, lgC, lgD, lgE, lgF]
        refine wpAnyH_take (i := 5) (v := ?v5_37) rfl (by kernel_rfl) (by kernel_rfl) (by kernel_rfl) (fun _ _ _ h => h) (Or.inl ⟨by rfl, ?hy5_37⟩) (by assumption) ?rest5_37
        case hy5_37 => intro w hSw; (try dsimp only at hSw); go_simp; (try with_reducible rfl)
        try simp only [Act.put, lgA, lgB, lgC, lgD, lgE, lgF]
        obtain ⟨gg, cc, f9, pre, post, E, hga, hg1, hg2, hg3, hrep, hpre, hgc, _, hput⟩ := own_put ho2 (i := kx) (x := ts[kx]) (List.getElem?_eq_getElem (by omega))
        simp only [Option.some.injEq, Addr.mk.injEq] at hga
        obtain ⟨rfl, _, _⟩ := hga
        obtain ⟨c0, d0, p0, q0, rfl, rfl, ⟨rfl, hs0, rfl⟩, ⟨c1, d1, p1, q1, rfl, rfl, ⟨rfl, hs1, rfl⟩, t2⟩⟩ := hrep
        obtain ⟨a2, n2, rfl⟩ := oS_len t2
        replace hpre : pre.length = kx * 3 := hpre
        replace hgc : wA.heap[g]? = some (.cells (pre ++ ([Value.string (ts[kx]).1, Value.int .i64 (ts[kx]).2.1, Value.slice a2 (ts[kx]).2.2.length n2] ++ post)).toArray E) := hgc
        have hfz := at_frozen hgc (kx * 3 + 2)
        have hcl := at_cell hgc hpre (j := 2) rfl
        refine wpAnyH_ready (rs := [6]) (by kernel_rfl) (by simp) ?_
        refine AllReadyH.cons rfl (fun K9 hK9 => ?_) AllReadyH.nil
        go_simp
        obtain ⟨wF, hwF⟩ : ∃ W, W = wA.setCell ⟨g, kx * 3 + 2, none⟩ (.slice none 0 0) := ⟨_, rfl⟩
        rw [← hwF]
        have hgF : wF.heap[g]? = some (.cells (pre ++ ([Value.string (ts[kx]).1, Value.int .i64 (ts[kx]).2.1, Value.slice none 0 0] ++ post)).toArray E) := by rw [hwF]; exact at_set hgc hpre (j := 2) (by simp) _
        have oF := hput wF ((ts[kx]).1, (ts[kx]).2.1, []) [Value.string (ts[kx]).1, Value.int .i64 (ts[kx]).2.1, Value.slice none 0 0] hi6 hi6 (oT_mk (x := ((ts[kx]).1, (ts[kx]).2.1, [])) hs0 hs1 (own_nil_S (B := hi6)) (Nat.le_refl _) (Nat.le_refl _)) (Nat.le_refl _) (Nat.le_refl _) hgF (fun k _ _ hne => by rw [hwF]; exact Below.heap_setCell _ _ _ _ hne)
        have zF : Below (w6.heap.size + 1 + 1) wA wF := by rw [hwF]; exact Below.setCell (Below.refl _ _) (by simp only []; omega) _
        have sF := zF.size
        have hbF := turn_on' hbA (zF.mono (by omega))
        have x4 := bxc zF x2
        have r4 := bxc zF r2
        have rf4 := bxf zF rf2
        have HC4 := HC2.below' zF (by omega)
        clear hwF hput hgc hgF hfz hcl x2 xf2 r2 rf2 HC2 t2
        refine hK9.out _ _ ?_ (fun hHeld => ?_)
        · exact x4
        clear hK9 K9
        try simp only [Act.put, lgA, lgB, lgC, lgD, lgE, lgF]
        refine wpAnyH_done (by kernel_rfl) ?_ _
        refine NoPanic.normal ?_
        obtain ⟨ts2, hts2⟩ : ∃ q, ts.set kx ((ts[kx]).1, (ts[kx]).2.1, []) = q := ⟨_, rfl⟩
        have hts3 : ts2.length = 5 := by rw [← hts2, List.length_set, htl]
        rw [hts2] at oF
        go_wp2_with fail
        refine bodyPost_ret (v := .agg #[.slice (some ⟨g, 0, none⟩) 5 c]) (by simp [results, Tryz.results65, go_sem, r4, rf4]) rfl ⟨g, 5, c, rfl, ts2, hts3, rfl, ?_, ?_, ?_⟩
        · refine Own.mono (lo := w6.heap.size + 1 + 1) (hi := hi6) ?_ (by omega) (by simp [World.setCell]; omega)
          repeat (refine own_off ?_ rfl (by simp only []; omega))
          exact oF
        · refine Cur.below' (C := w.heap.size) HC4 ?_ hcb
          repeat (refine Below.setCell ?_ (by simp only []; omega) _)
          exact Below.refl _ _
        · refine turn_on' hbF ?_
          repeat (refine Below.setCell ?_ (by simp only []; omega) _)
          exact Below.refl _ _

end Go.Proofs.YtpgfkjcekhifiaaGreatDoor



namespace Go.Proofs.YtpgfkjcekhifiaaGreatDoor

open Go.RowKit

set_option linter.unusedVariables false

set_option linter.unusedSimpArgs false

set_option synthInstance.maxSize 2000

set_option synthInstance.maxHeartbeats 400000

theorem oTl_cap {lo hi : Nat} {w : World} {b : Option Addr} {n c : Nat} {xs : List DT} (h : Own oTl lo hi w [.slice b n c] xs) : n = xs.length ∧ n ≤ c ∧ c ≤ 9223372036854775807 ∧ True := by
  obtain ⟨a, m, d, e, h1, h2, hs⟩ := h.rd reads_Tl
  simp only [List.cons.injEq, and_true, Value.slice.injEq] at e
  obtain ⟨rfl, rfl, rfl⟩ := e
  exact ⟨hs.len.symm, h1, h2, trivial⟩

set_option maxRecDepth 100000 in
set_option maxHeartbeats 8000000 in
theorem l5Any_any (w : World) (cb : Nat) (ba : Option Addr) (bn bc : Nat) (HC : Cur w cb ba bn bc) (hcb : cb < w.heap.size) :
    Calls Tryz.prog 26 #[.pointer (some ⟨cb, 0, none⟩)] w fun e w' => ∃ (b : Option Addr) (n c : Nat) (db : List DT), e = .returned (.agg #[.slice b n c]) ∧ DrawnDb w.heap.size w'.heap.size w' b n c db ∧ Cur w' cb ba bn bc ∧ Turn cb (cb + 1) w w' := by
  have ht0 : Turn cb (cb + 1) w w := (Kept.refl cb (cb + 1) w).turn
  go_enter Tryz.func26, Tryz.ntmps26
  obtain ⟨w1, hw1⟩ : ∃ W, W = w.alloc (.cells #[.slice none 0 0] 26) := ⟨_, rfl⟩
  have z1 : Below w.heap.size w w1 := by rw [hw1]; exact (Below.refl _ _).alloc (Nat.le_refl _) _
  have s1 : w1.heap.size = w.heap.size + 1 := by rw [hw1]; simp
  have hb1 := turn_on' ht0 (z1.mono (by omega))
  replace HC := HC.below' z1 (by omega)
  have R_0 : w1.cell? ⟨w.heap.size, 0, none⟩ = some (.slice none 0 0) := by rw [hw1]; exact box_cell (Below.refl _ _) rfl
  have R_f0 : w1.frozen? ⟨w.heap.size, 0, none⟩ = false := by rw [hw1]; exact box_frozen (Below.refl _ _)
  have raw1_R_0 := R_0
  have raw1_R_f0 := R_f0
  rw [hw1] at raw1_R_0 raw1_R_f0
  go_wp2_with fail
  rw [← hw1]
  clear hw1
  clear raw1_R_0 raw1_R_f0
  obtain ⟨lo4, hlo4⟩ : ∃ q, q = w1.heap.size := ⟨_, rfl⟩
  have HC_o := HC
  clear HC
  refine (l5Db_any _ cb ba bn bc HC_o (by omega)).mono ?_
  rintro e w2 ⟨g, n, c, ts, rfl, htl, rfl, ho, HC, z2⟩
  clear HC_o
  have s3 := z2.size
  have hb3 := hb1.trans z2
  replace R_0 := txc z2 R_0
  replace R_f0 := txf z2 R_f0
  rw [← hlo4] at ho
  obtain ⟨hi5, hhi5⟩ : ∃ q, q = w2.heap.size := ⟨_, rfl⟩
  rw [← hhi5] at ho
  have hlh : w.heap.size + 1 ≤ lo4 ∧ cb + 1 ≤ lo4 := by omega
  have hlh2 : lo4 ≤ hi5 := by omega
  obtain ⟨w4, hw4⟩ : ∃ W, W = w2.alloc (.cells #[.slice (some ⟨g, 0, none⟩) 5 c] 26) := ⟨_, rfl⟩
  have z4 : Below w2.heap.size w2 w4 := by rw [hw4]; exact (Below.refl _ _).alloc (Nat.le_refl _) _
  have s4 : w4.heap.size = w2.heap.size + 1 := by rw [hw4]; simp
  have hb4 := turn_on' hb3 (z4.mono (by omega))
  have old4_R_0 := R_0
  replace HC := HC.below' z4 (by omega)
  replace R_0 := bxc z4 R_0
  replace R_f0 := bxf z4 R_f0
  replace ho := ho.below z4 (by omega)
  have X_0 : w4.cell? ⟨w2.heap.size, 0, none⟩ = some (.slice (some ⟨g, 0, none⟩) 5 c) := by rw [hw4]; exact box_cell (Below.refl _ _) rfl
  have X_f0 : w4.frozen? ⟨w2.heap.size, 0, none⟩ = false := by rw [hw4]; exact box_frozen (Below.refl _ _)
  have raw4_R_0 := R_0
  have raw4_R_f0 := R_f0
  have raw4_X_0 := X_0
  have raw4_X_f0 := X_f0
  rw [hw4] at raw4_R_0 raw4_R_f0 raw4_X_0 raw4_X_f0
  go_wp2_with fail
  rw [← hw4]
  clear hw4
  clear old4_R_0 raw4_R_0 raw4_R_f0 raw4_X_0 raw4_X_f0
  have HC_o := HC
  clear HC
  refine (l1Below_any _ cb ba bn bc 10 (by omega) HC_o).mono ?_
  rintro e w5 ⟨k1, rfl, hq0, hq1, hq2, HC, z5⟩
  clear HC_o
  have s6 := Nat.le_of_eq z5.size
  have s6' := Nat.le_of_eq z5.size.symm
  replace z5 := z5.turn
  have hb6 := hb4.trans z5
  replace R_0 := txc z5 R_0
  replace R_f0 := txf z5 R_f0
  replace ho := ho.turn z5 (by omega)
  replace X_0 := txc z5 X_0
  replace X_f0 := txf z5 X_f0
  clear hq0 hq1 hq2
  by_cases a0 : k1 = 0
  · subst a0
    go_wp2_with fail
    obtain ⟨lo7, hlo7⟩ : ∃ q, q = w5.heap.size := ⟨_, rfl⟩
    have HC_o := HC
    clear HC
    refine (l4Any_any _ cb ba bn bc HC_o (by omega)).mono ?_
    rintro e w7 ⟨nm, A, b2, n2, c2, rows2, rfl, hns, hA1, hA2, ho2, hrl2, hrr2, HC, z7⟩
    clear HC_o
    have s8 := z7.size
    have hb8 := hb6.trans z7
    replace R_0 := txc z7 R_0
    replace R_f0 := txf z7 R_f0
    replace ho := ho.turn z7 (by omega)
    replace X_0 := txc z7 X_0
    replace X_f0 := txf z7 X_f0
    rw [← hlo7] at ho2
    obtain ⟨hi7, hhi7⟩ : ∃ q, q = w7.heap.size := ⟨_, rfl⟩
    rw [← hhi7] at ho2
    have hl7 : hi5 ≤ lo7 ∧ lo7 ≤ hi7 := by omega
    clear hrr2
    obtain ⟨w9, hw9⟩ : ∃ W, W = w7.alloc (.cells #[.string nm, .int .i64 A, .slice b2 n2 c2] 41) := ⟨_, rfl⟩
    have z9 : Below w7.heap.size w7 w9 := by rw [hw9]; exact (Below.refl _ _).alloc (Nat.le_refl _) _
    have s9 : w9.heap.size = w7.heap.size + 1 := by rw [hw9]; simp
    have hb9 := turn_on' hb8 (z9.mono (by omega))
    have old9_R_0 := R_0
    have old9_X_0 := X_0
    replace HC := HC.below' z9 (by omega)
    replace R_0 := bxc z9 R_0
    replace R_f0 := bxf z9 R_f0
    replace ho := ho.below z9 (by omega)
    replace X_0 := bxc z9 X_0
    replace X_f0 := bxf z9 X_f0
    replace ho2 := ho2.below z9 (by omega)
    have T_0 : w9.cell? ⟨w7.heap.size, 0, none⟩ = some (.string nm) := by rw [hw9]; exact box_cell (Below.refl _ _) rfl
    have T_1 : w9.cell? ⟨w7.heap.size, 1, none⟩ = some (.int .i64 A) := by rw [hw9]; exact box_cell (Below.refl _ _) rfl
    have T_2 : w9.cell? ⟨w7.heap.size, 2, none⟩ = some (.slice b2 n2 c2) := by rw [hw9]; exact box_cell (Below.refl _ _) rfl
    have raw9_R_0 := R_0
    have raw9_R_f0 := R_f0
    have raw9_X_0 := X_0
    have raw9_X_f0 := X_f0
    have raw9_T_0 := T_0
    have raw9_T_1 := T_1
    have raw9_T_2 := T_2
    rw [hw9] at raw9_R_0 raw9_R_f0 raw9_X_0 raw9_X_f0 raw9_T_0 raw9_T_1 raw9_T_2
    go_wp2_with fail
    rw [← hw9]
    clear hw9
    clear old9_R_0 old9_X_0 raw9_R_0 raw9_R_f0 raw9_X_0 raw9_X_f0 raw9_T_0 raw9_T_1 raw9_T_2
    have hdr : Below w9.heap.size w9 w9.drew := (Below.refl _ _).drew
    refine wp_region_noPanic ?_
    refine wp_region_held_drew (S := (fun W => W.cell? ⟨w2.heap.size, 0, none⟩ = some (.slice (some ⟨g, 0, none⟩) 5 c) ∧ W.cell? ⟨w7.heap.size, 0, none⟩ = some (.string nm) ∧ W.cell? ⟨w7.heap.size, 1, none⟩ = some (.int .i64 A) ∧ W.cell? ⟨w7.heap.size, 2, none⟩ = some (.slice b2 n2 c2))) (by kernel_rfl) ?hS10 (fun hHeld => ?_)
    case hS10 => exact ⟨X_0, T_0, T_1, T_2⟩
    refine wpAnyH_take (i := 0) (v := ?v0_11) rfl (by kernel_rfl) (by kernel_rfl) (by kernel_rfl) (fun _ _ _ h => h) (Or.inl ⟨by rfl, ?hy0_11⟩) (by assumption) ?rest0_11
    case hy0_11 => intro w hSw; (try dsimp only at hSw); go_simp; (try with_reducible rfl)
    try simp only [Act.put, lgA, lgB, lgC, lgD, lgE, lgF]
    refine wpAnyH_take (i := 1) (v := ?v1_12) rfl (by kernel_rfl) (by kernel_rfl) (by kernel_rfl) (fun _ _ _ h => h) (Or.inl ⟨by rfl, ?hy1_12⟩) (by assumption) ?rest1_12
    case hy1_12 => intro w hSw; (try dsimp only at hSw); go_simp; (try with_reducible rfl)
    try simp only [Act.put, lgA, lgB, lgC, lgD, lgE, lgF]
    refine wpAnyH_take (i := 2) (v := ?v2_13) rfl (by kernel_rfl) (by kernel_rfl) (by kernel_rfl) (fun _ _ _ h => h) (Or.inl ⟨by rfl, ?hy2_13⟩) (by assumption) ?rest2_13
    case hy2_13 => intro w hSw; (try dsimp only at hSw); go_simp; (try with_reducible rfl)
    try simp only [Act.put, lgA, lgB, lgC, lgD, lgE, lgF]
    refine wpAnyH_take (i := 4) (v := ?v4_14) rfl (by kernel_rfl) (by kernel_rfl) (by kernel_rfl) (fun _ _ _ h => h) (Or.inl ⟨by rfl, ?hy4_14⟩) (by assumption) ?rest4_14
    case hy4_14 => intro w hSw; (try dsimp only at hSw); go_simp; (try with_reducible rfl)
    try simp only [Act.put, lgA, lgB, lgC, lgD, lgE, lgF]
    refine wpAnyH_ready (rs := [3]) (by kernel_rfl) (by simp) ?_
    refine AllReadyH.cons rfl (fun K hK => ?_) AllReadyH.nil
    go_simp; (refine (l1Below_any _ cb ba bn bc 5 (by omega) (HC.below' hdr (by omega))).mono ?_); rintro e wA ⟨x, rfl, hx0, hx1, hx2, HC2, kA⟩; have tA : Turn cb (cb + 1) w9 wA := (turn_below hdr (Nat.le_refl _)).trans kA.turn; have sA := tA.size; have hbA := hb9.trans tA; have hoA := ho.turn tA (by omega); have hoB := ho2.turn tA (by omega); have x2 := (tA.cell (p := ⟨w2.heap.size, 0, none⟩) (by simp only []; omega) (by simp only []; omega)).trans X_0; have xf2 := (tA.frozen (p := ⟨w2.heap.size, 0, none⟩) (by simp only []; omega) (by simp only []; omega)).trans X_f0; have r2 := (tA.cell (p := ⟨w.heap.size, 0, none⟩) (by simp only []; omega) (by simp only []; omega)).trans R_0; have rf2 := (tA.frozen (p := ⟨w.heap.size, 0, none⟩) (by simp only []; omega) (by simp only []; omega)).trans R_f0; clear X_0 X_f0 R_0 R_f0; have t20 := (tA.cell (p := ⟨w7.heap.size, 0, none⟩) (by simp only []; omega) (by simp only []; omega)).trans T_0; have t21 := (tA.cell (p := ⟨w7.heap.size, 1, none⟩) (by simp only []; omega) (by simp only []; omega)).trans T_1; have t22 := (tA.cell (p := ⟨w7.heap.size, 2, none⟩) (by simp only []; omega) (by simp only []; omega)).trans T_2; clear T_0 T_1 T_2; clear hx2 kA tA ho ho2 HC; obtain ⟨kx, rfl⟩ := Int.eq_ofNat_of_zero_le hx0; have hkx : kx < 5 := by { have := hx1 (by omega); omega }; clear hx0 hx1
    refine hK.out _ _ ?_ (fun hHeld => ?_)
    · exact ⟨x2, t20, t21, t22⟩
    clear hK K
    try simp only [Act.put, List.setIfInBounds_toArray, List.set_cons_zero, List.set_cons_succ]
    have hkx5 : (kx : Int) < 5 := by omega
    refine wpAnyH_take (i := 5) (v := ?v5_15) rfl (by kernel_rfl) (by kernel_rfl) (by kernel_rfl) (fun _ _ _ h => h) (Or.inl ⟨by rfl, ?hy5_15⟩) (by assumption) ?rest5_15
    case hy5_15 => intro w hSw; (try dsimp only at hSw); go_simp; (try with_reducible rfl)
    try simp only [Act.put, lgA, lgB, lgC, lgD, lgE, lgF]
    obtain ⟨gg, cc, f9, pre, post, E, hga, hg1, hg2, hg3, hrep, hpre, hgc, _, hput⟩ := own_put hoA (i := kx) (x := ts[kx]) (List.getElem?_eq_getElem (by omega))
    simp only [Option.some.injEq, Addr.mk.injEq] at hga
    obtain ⟨rfl, _, _⟩ := hga
    obtain ⟨c0, d0, p0, q0, rfl, rfl, ⟨rfl, hs0, rfl⟩, ⟨c1, d1, p1, q1, rfl, rfl, ⟨rfl, hs1, rfl⟩, t2⟩⟩ := hrep
    obtain ⟨a2, m2, rfl⟩ := oS_len t2
    replace hpre : pre.length = kx * 3 := hpre
    replace hgc : wA.heap[g]? = some (.cells (pre ++ ([Value.string (ts[kx]).1, Value.int .i64 (ts[kx]).2.1, Value.slice a2 (ts[kx]).2.2.length m2] ++ post)).toArray E) := hgc
    have hfz0 := at_frozen hgc (kx * 3)
    have hfz1 := at_frozen hgc (kx * 3 + 1)
    have hfz2 := at_frozen hgc (kx * 3 + 2)
    have hcl0 : wA.cell? ⟨g, kx * 3, none⟩ = some (Value.string (ts[kx]).1) := at_cell hgc hpre (j := 0) rfl
    have hcl1 : wA.cell? ⟨g, kx * 3 + 1, none⟩ = some (Value.int .i64 (ts[kx]).2.1) := at_cell hgc hpre (j := 1) rfl
    have hcl2 : wA.cell? ⟨g, kx * 3 + 2, none⟩ = some (Value.slice a2 (ts[kx]).2.2.length m2) := at_cell hgc hpre (j := 2) rfl
    refine wpAnyH_ready (rs := [6]) (by kernel_rfl) (by simp) ?_
    refine AllReadyH.cons rfl (fun K9 hK9 => ?_) AllReadyH.nil
    go_simp
    obtain ⟨wF1, hwF1⟩ : ∃ W, W = wA.setCell ⟨g, kx * 3, none⟩ (.string nm) := ⟨_, rfl⟩
    obtain ⟨wF2, hwF2⟩ : ∃ W, W = wF1.setCell ⟨g, kx * 3 + 1, none⟩ (.int .i64 A) := ⟨_, rfl⟩
    obtain ⟨wF, hwF⟩ : ∃ W, W = wF2.setCell ⟨g, kx * 3 + 2, none⟩ (.slice b2 n2 c2) := ⟨_, rfl⟩
    rw [← hwF1, ← hwF2, ← hwF]
    have hg8 : wF1.heap[g]? = some (.cells (pre ++ ([Value.string nm, Value.int .i64 (ts[kx]).2.1, Value.slice a2 (ts[kx]).2.2.length m2] ++ post)).toArray E) := by rw [hwF1]; exact at_set hgc hpre (j := 0) (by simp) _
    have hg9 : wF2.heap[g]? = some (.cells (pre ++ ([Value.string nm, Value.int .i64 A, Value.slice a2 (ts[kx]).2.2.length m2] ++ post)).toArray E) := by rw [hwF2]; exact at_set hg8 hpre (j := 1) (by simp) _
    have hgF : wF.heap[g]? = some (.cells (pre ++ ([Value.string nm, Value.int .i64 A, Value.slice b2 n2 c2] ++ post)).toArray E) := by rw [hwF]; exact at_set hg9 hpre (j := 2) (by simp) _
    have hne : ∀ k, k ≠ g → wF.heap[k]? = wA.heap[k]? := fun k hk => by rw [hwF, Below.heap_setCell _ _ _ _ hk, hwF2, Below.heap_setCell _ _ _ _ hk, hwF1, Below.heap_setCell _ _ _ _ hk]
    have tF : Turn g (g + 1) wA wF := by
      rw [hwF, hwF2, hwF1]
      exact (((turn_refl g (g + 1) wA).setIn (p := ⟨g, _, none⟩) (Nat.le_refl _) (Nat.lt_succ_self _) _).setIn (p := ⟨g, _, none⟩) (Nat.le_refl _) (Nat.lt_succ_self _) _).setIn (p := ⟨g, _, none⟩) (Nat.le_refl _) (Nat.lt_succ_self _) _
    have oF := hput wF (nm, A, rows2) [Value.string nm, Value.int .i64 A, Value.slice b2 n2 c2] lo7 hi7 (oT_mk (x := (nm, A, rows2)) (show nm.size ≤ _ by omega) (show I64 A by unfold I64; omega) (hoB.turn tF (by omega)) (Nat.le_refl _) (Nat.le_refl _)) (by omega) (by omega) hgF (fun k _ _ h9 => hne k h9)
    have zF : Below lo4 wA wF := (tF.below (by omega)).mono (by omega)
    have sF := zF.size
    have hbF := turn_on' hbA (zF.mono (by omega))
    have x4 := txc tF x2
    have t40 := txc tF t20
    have t41 := txc tF t21
    have t42 := txc tF t22
    have r4 := bxc zF r2
    have rf4 := bxf zF rf2
    have HC4 := HC2.below' zF (by omega)
    clear hwF hwF1 hwF2 hput hgc hgF hg8 hg9 hfz0 hfz1 hfz2 hcl0 hcl1 hcl2 x2 xf2 r2 rf2 HC2 t2 hne t20 t21 t22 hoB
    refine hK9.out _ _ ?_ (fun hHeld => ?_)
    · exact ⟨x4, t40, t41, t42⟩
    clear hK9 K9
    try simp only [Act.put, lgA, lgB, lgC, lgD, lgE, lgF]
    refine wpAnyH_done (by kernel_rfl) ?_ _
    refine NoPanic.normal ?_
    obtain ⟨ts2, hts2⟩ : ∃ q, ts.set kx (nm, A, rows2) = q := ⟨_, rfl⟩
    rw [hts2] at oF
    go_wp2_with fail
    refine bodyPost_ret (v := .agg #[.slice (some ⟨g, 0, none⟩) 5 c]) (by simp [results, Tryz.results26, go_sem, r4, rf4]) rfl ?_
    have HDB : DrawnDb lo4 hi7 _ (some ⟨g, 0, none⟩) 5 c ts2 := DrawnDb.of oF
    first | refine ⟨some ⟨g, 0, none⟩, 5, c, ts2, rfl, ?_, ?_, ?_⟩ | refine ⟨some ⟨g, 0, none⟩, 5, c, rfl, ts2, ?_, ?_, ?_⟩
    · refine DrawnDb.mono (lo := lo4) (hi := hi7) ?_ (by omega) (by simp [World.setCell]; omega)
      repeat (refine DrawnDb.off ?_ rfl (by simp only []; omega))
      exact HDB
    · refine Cur.below' (C := w.heap.size) HC4 ?_ hcb
      repeat (refine Below.setCell ?_ (by simp only []; omega) _)
      exact Below.refl _ _
    · refine turn_on' hbF ?_
      repeat (refine Below.setCell ?_ (by simp only []; omega) _)
      exact Below.refl _ _
  by_cases a1 : k1 = 1
  · subst a1
    obtain ⟨w16, hw16⟩ : ∃ W, W = w5.alloc (.cells #[.string (ByteArray.mk #[97]), .string (ByteArray.mk #[119]), .string (ByteArray.mk #[122])] 9) := ⟨_, rfl⟩
    have z16 : Below w5.heap.size w5 w16 := by rw [hw16]; exact (Below.refl _ _).alloc (Nat.le_refl _) _
    have s16 : w16.heap.size = w5.heap.size + 1 := by rw [hw16]; simp
    have hb16 := turn_on' hb6 (z16.mono (by omega))
    have old16_R_0 := R_0
    have old16_X_0 := X_0
    replace HC := HC.below' z16 (by omega)
    replace R_0 := bxc z16 R_0
    replace R_f0 := bxf z16 R_f0
    replace ho := ho.below z16 (by omega)
    replace X_0 := bxc z16 X_0
    replace X_f0 := bxf z16 X_f0
    have L_0 : w16.cell? ⟨w5.heap.size, 0, none⟩ = some (.string (ByteArray.mk #[97])) := by rw [hw16]; exact box_cell (Below.refl _ _) rfl
    have L_1 : w16.cell? ⟨w5.heap.size, 1, none⟩ = some (.string (ByteArray.mk #[119])) := by rw [hw16]; exact box_cell (Below.refl _ _) rfl
    have L_2 : w16.cell? ⟨w5.heap.size, 2, none⟩ = some (.string (ByteArray.mk #[122])) := by rw [hw16]; exact box_cell (Below.refl _ _) rfl
    have raw16_R_0 := R_0
    have raw16_R_f0 := R_f0
    have raw16_X_0 := X_0
    have raw16_X_f0 := X_f0
    have raw16_L_0 := L_0
    have raw16_L_1 := L_1
    have raw16_L_2 := L_2
    rw [hw16] at raw16_R_0 raw16_R_f0 raw16_X_0 raw16_X_f0 raw16_L_0 raw16_L_1 raw16_L_2
    have HN : Hid (∀ i, i < 3 → ∃ s, s ∈ [ByteArray.mk #[97], ByteArray.mk #[119], ByteArray.mk #[122]] ∧ w16.cell? ⟨w5.heap.size, i, none⟩ = some (.string s)) := Lib.hid (fun i hi => by
      rcases (by omega : i = 0 ∨ i = 1 ∨ i = 2) with rfl | rfl | rfl
      · exact ⟨ByteArray.mk #[97], by simp, L_0⟩
      · exact ⟨ByteArray.mk #[119], by simp, L_1⟩
      · exact ⟨ByteArray.mk #[122], by simp, L_2⟩)
    clear L_0 L_1 L_2
    go_wp2_with fail
    rw [← hw16]
    clear hw16
    clear old16_R_0 old16_X_0 raw16_R_0 raw16_R_f0 raw16_X_0 raw16_X_f0 raw16_L_0 raw16_L_1 raw16_L_2
    have HC_o := HC
    clear HC
    refine (l1Pick_any _ cb ba bn bc _ 3 3 _ (by omega) (by omega) HN.out (by omega) HC_o).mono ?_
    rintro e w17 ⟨nm, rfl, hnm, HC, z17⟩
    clear HC_o
    have s18 := Nat.le_of_eq z17.size
    have s18' := Nat.le_of_eq z17.size.symm
    replace z17 := z17.turn
    have hb18 := hb16.trans z17
    replace R_0 := txc z17 R_0
    replace R_f0 := txf z17 R_f0
    replace ho := ho.turn z17 (by omega)
    replace X_0 := txc z17 X_0
    replace X_f0 := txf z17 X_f0
    have hns : nm.size ≤ 5 := by
      simp only [List.mem_cons, List.not_mem_nil, or_false] at hnm
      rcases hnm with rfl | rfl | rfl <;> decide
    clear hnm HN
    go_wp2_with fail
    obtain ⟨lo7, hlo7⟩ : ∃ q, q = w17.heap.size := ⟨_, rfl⟩
    have HC_o := HC
    clear HC
    refine (l4Tab_any _ cb ba bn bc nm 2 4 3 (by omega) (by omega) (by omega) HC_o (by omega)).mono ?_
    rintro e w19 ⟨b2, n2, c2, rows2, rfl, ho2, hrl2, hrr2, HC, z19⟩
    clear HC_o
    have s20 := z19.size
    have hb20 := hb18.trans z19
    replace R_0 := txc z19 R_0
    replace R_f0 := txf z19 R_f0
    replace ho := ho.turn z19 (by omega)
    replace X_0 := txc z19 X_0
    replace X_f0 := txf z19 X_f0
    rw [← hlo7] at ho2
    obtain ⟨hi7, hhi7⟩ : ∃ q, q = w19.heap.size := ⟨_, rfl⟩
    rw [← hhi7] at ho2
    have hl7 : hi5 + 1 ≤ lo7 ∧ lo7 ≤ hi7 := by omega
    clear hrr2
    obtain ⟨w21, hw21⟩ : ∃ W, W = w19.alloc (.cells #[.string nm, .int .i64 2, .slice b2 n2 c2] 41) := ⟨_, rfl⟩
    have z21 : Below w19.heap.size w19 w21 := by rw [hw21]; exact (Below.refl _ _).alloc (Nat.le_refl _) _
    have s21 : w21.heap.size = w19.heap.size + 1 := by rw [hw21]; simp
    have hb21 := turn_on' hb20 (z21.mono (by omega))
    have old21_R_0 := R_0
    have old21_X_0 := X_0
    replace HC := HC.below' z21 (by omega)
    replace R_0 := bxc z21 R_0
    replace R_f0 := bxf z21 R_f0
    replace ho := ho.below z21 (by omega)
    replace X_0 := bxc z21 X_0
    replace X_f0 := bxf z21 X_f0
    replace ho2 := ho2.below z21 (by omega)
    have T_0 : w21.cell? ⟨w19.heap.size, 0, none⟩ = some (.string nm) := by rw [hw21]; exact box_cell (Below.refl _ _) rfl
    have T_1 : w21.cell? ⟨w19.heap.size, 1, none⟩ = some (.int .i64 2) := by rw [hw21]; exact box_cell (Below.refl _ _) rfl
    have T_2 : w21.cell? ⟨w19.heap.size, 2, none⟩ = some (.slice b2 n2 c2) := by rw [hw21]; exact box_cell (Below.refl _ _) rfl
    have raw21_R_0 := R_0
    have raw21_R_f0 := R_f0
    have raw21_X_0 := X_0
    have raw21_X_f0 := X_f0
    have raw21_T_0 := T_0
    have raw21_T_1 := T_1
    have raw21_T_2 := T_2
    rw [hw21] at raw21_R_0 raw21_R_f0 raw21_X_0 raw21_X_f0 raw21_T_0 raw21_T_1 raw21_T_2
    have oTb : Own oT lo7 hi7 w21 [.string nm, .int .i64 2, .slice b2 n2 c2] (nm, 2, rows2) := oT_mk (x := (nm, 2, rows2)) (show nm.size ≤ _ by omega) (show I64 2 by constructor <;> decide) ho2 (Nat.le_refl _) (Nat.le_refl _)
    obtain ⟨na, nn, nc, wn, hrn, _, hzn, hzs, on_⟩ := own_tab 24 ho oTb (by omega) (by omega) (by omega) (by omega) (by omega) rfl
    rw [s21] at hrn
    rw [hw21] at hrn
    clear ho2 ho oTb
    have s22 := hzn.size
    have hq22 := hzn.below (by omega)
    have hb22 := turn_on' hb21 (hq22.mono (by omega))
    replace HC := HC.below' hq22 (by omega)
    replace R_0 := txc hzn R_0
    replace R_f0 := txf hzn R_f0
    replace X_0 := txc hzn X_0
    replace X_f0 := txf hzn X_f0
    obtain ⟨xn, hxn⟩ : ∃ q, q = wn.heap.size := ⟨_, rfl⟩
    rw [← hxn] at on_
    have oX := on_ ⟨w2.heap.size, 0, none⟩ (.slice na nn nc) (by simp only []; omega) (by simp only []; omega)
    go_wp2_with ((at_builtin; refine wpList_app_run hrn rfl rfl rfl rfl rfl ?_))
    refine bodyPost_ret (v := .agg #[.slice na nn nc]) (by simp [results, Tryz.results26, go_sem, R_0, R_f0]) rfl ?_
    obtain ⟨g3, rfl⟩ := (oTl_some oX (by rw [List.length_append]; simp)).2
    have HDB : DrawnDb lo4 xn _ (some ⟨g3, 0, none⟩) nn nc (ts ++ [(nm, 2, rows2)]) := DrawnDb.of oX
    first | refine ⟨some ⟨g3, 0, none⟩, nn, nc, (ts ++ [(nm, 2, rows2)]), rfl, ?_, ?_, ?_⟩ | refine ⟨some ⟨g3, 0, none⟩, nn, nc, rfl, (ts ++ [(nm, 2, rows2)]), ?_, ?_, ?_⟩
    · refine DrawnDb.mono (lo := lo4) (hi := xn) ?_ (by omega) (by simp [World.setCell]; omega)
      repeat (refine DrawnDb.off ?_ rfl (by simp only []; omega))
      exact HDB
    · refine Cur.below' (C := w.heap.size) HC ?_ hcb
      repeat (refine Below.setCell ?_ (by simp only []; omega) _)
      exact Below.refl _ _
    · refine turn_on' hb22 ?_
      repeat (refine Below.setCell ?_ (by simp only []; omega) _)
      exact Below.refl _ _
  by_cases a2 : k1 = 2
  · subst a2
    go_wp2_with fail
    have hdr : Below w5.heap.size w5 w5.drew := (Below.refl _ _).drew
    have xd0 : w5.drew.cell? ⟨w2.heap.size, 0, none⟩ = some (.slice (some ⟨g, 0, none⟩) 5 c) := X_0
    refine wp_region_noPanic ?_
    refine wp_region_held_drew (S := (fun W => True)) (by kernel_rfl) ?hS23 (fun hHeld => ?_)
    case hS23 => trivial
    refine wpAnyH_take (i := 0) (v := ?v0_24) rfl (by kernel_rfl) (by kernel_rfl) (by kernel_rfl) (fun _ _ _ h => h) (Or.inl ⟨by rfl, ?hy0_24⟩) (by assumption) ?rest0_24
    case hy0_24 => intro w hSw; (try dsimp only at hSw); go_simp; (try with_reducible rfl)
    try simp only [Act.put, lgA, lgB, lgC, lgD, lgE, lgF]
    refine wpAnyH_take (i := 2) (v := ?v2_25) rfl (by kernel_rfl) (by kernel_rfl) (by kernel_rfl) (fun _ _ _ h => h) (Or.inl ⟨by rfl, ?hy2_25⟩) (by assumption) ?rest2_25
    case hy2_25 => intro w hSw; (try dsimp only at hSw); go_simp; (try with_reducible rfl)
    try simp only [Act.put, lgA, lgB, lgC, lgD, lgE, lgF]
    refine wpAnyH_ready (rs := [1, 3]) (by kernel_rfl) (by simp) ?_
    refine AllReadyH.cons rfl (fun K9 hK9 => ?_) (AllReadyH.cons rfl (fun K9 hK9 => ?_) AllReadyH.nil)
    · skip
      go_simp
      refine hK9.out _ _ trivial (fun hHeld => ?_)
      clear hK9 K9
      try simp only [Act.put, lgA, lgB, lgC, lgD, lgE, lgF]
      refine wpAnyH_ready (rs := [3]) (by kernel_rfl) (by simp) ?_
      refine AllReadyH.cons rfl (fun K9 hK9 => ?_) AllReadyH.nil
      go_simp
      (refine (l1Below_any _ cb ba bn bc 5 (by omega) (HC.below' hdr (by omega))).mono ?_)
      rintro e wA ⟨x, rfl, hx0, hx1, hx2, HC2, kA⟩
      have tA : Turn cb (cb + 1) w5 wA := (turn_below hdr (Nat.le_refl _)).trans kA.turn
      have sA := tA.size
      have hbA := hb6.trans tA
      have hoA := ho.turn tA (by omega)
      have x2 := txc tA X_0
      have xf2 := txf tA X_f0
      have r2 := txc tA R_0
      have rf2 := txf tA R_f0
      clear X_0 X_f0 R_0 R_f0
      clear hx2 kA tA ho HC
      obtain ⟨kx, rfl⟩ := Int.eq_ofNat_of_zero_le hx0
      have hkx : kx < 5 := by
        have := hx1 (by omega)
        omega
      clear hx0 hx1 xd0
      refine hK9.out _ _ trivial (fun hHeld => ?_)
      clear hK9 K9
      try simp only [Act.put, lgA, lgB, lgC, lgD, lgE, lgF]
      have hkx5 : (kx : Int) ≤ 5 := by omega
      have hcap5 := (oTl_cap hoA).2.1
      have hck : ¬ c = kx := by omega
      refine wpAnyH_take (i := 4) (v := .slice (some ⟨g, kx * 3, none⟩) (5 - kx) (c - kx)) rfl (by kernel_rfl) (by kernel_rfl) (by kernel_rfl) (fun _ _ _ h => h) (Or.inl ⟨by rfl, ?_⟩) (by assumption) ?_
      · intro w hSw; (try dsimp only at hSw); go_simp
      try simp only [Act.put, lgA, lgB, lgC, lgD, lgE, lgF]
      refine wpAnyH_take (i := 5) (v := ?v5_26) rfl (by kernel_rfl) (by kernel_rfl) (by kernel_rfl) (fun _ _ _ h => h) (Or.inl ⟨by rfl, ?hy5_26⟩) (by assumption) ?rest5_26
      case hy5_26 => intro w hSw; (try dsimp only at hSw); go_simp; (try with_reducible rfl)
      try simp only [Act.put, lgA, lgB, lgC, lgD, lgE, lgF]
      refine wpAnyH_ready (rs := [6]) (by kernel_rfl) (by simp) ?_
      refine AllReadyH.cons rfl (fun K9 hK9 => ?_) AllReadyH.nil
      go_simp
      obtain ⟨wF, hwF⟩ : ∃ W, W = wA.setCell ⟨w2.heap.size, 0, none⟩ (.slice (some ⟨g, kx * 3, none⟩) (5 - kx) (c - kx)) := ⟨_, rfl⟩
      rw [← hwF]
      have x4 : wF.cell? ⟨w2.heap.size, 0, none⟩ = some (.slice (some ⟨g, kx * 3, none⟩) (5 - kx) (c - kx)) := by rw [hwF]; simp [go_sem, x2]
      have zF : Below w2.heap.size wA wF := by rw [hwF]; exact Below.setCell (Below.refl _ _) (by simp only []; omega) _
      have r4 := bxc zF r2
      have rf4 := bxf zF rf2
      have sF := zF.size
      have HC4 := HC2.below' zF (by omega)
      have hbF := turn_on' hbA (zF.mono (by omega))
      have oF : DrawnDb lo4 hi5 wF (some ⟨g, kx * 3, none⟩) (5 - kx) (c - kx) (ts.drop kx) := ⟨g, 5, c, kx, ts, rfl, rfl, rfl, by omega, hcap5, by rw [hwF]; exact own_off hoA rfl (by simp only []; omega), rfl⟩
      clear hwF x2 xf2 r2 rf2 HC2 hoA
      refine hK9.out _ _ trivial (fun hHeld => ?_)
      clear hK9 K9
      try simp only [Act.put, lgA, lgB, lgC, lgD, lgE, lgF]
      refine wpAnyH_done (by kernel_rfl) ?_ _
      refine NoPanic.normal ?_
      obtain ⟨ts2, hts2⟩ : ∃ q, ts.drop kx = q := ⟨_, rfl⟩
      rw [hts2] at oF
      obtain ⟨n5, hn5⟩ : ∃ q, 5 - kx = q := ⟨_, rfl⟩
      obtain ⟨c5, hc5⟩ : ∃ q, c - kx = q := ⟨_, rfl⟩
      rw [hn5, hc5] at oF x4 ⊢
      clear hn5 hc5 hts2
      go_wp2_with fail
      refine bodyPost_ret (v := .agg #[.slice (some ⟨g, kx * 3, none⟩) n5 c5]) (by simp [results, Tryz.results26, go_sem, r4, rf4]) rfl ?_
      have HDB : DrawnDb lo4 hi5 _ (some ⟨g, kx * 3, none⟩) n5 c5 ts2 := oF
      first | refine ⟨some ⟨g, kx * 3, none⟩, n5, c5, ts2, rfl, ?_, ?_, ?_⟩ | refine ⟨some ⟨g, kx * 3, none⟩, n5, c5, rfl, ts2, ?_, ?_, ?_⟩
      · refine DrawnDb.mono (lo := lo4) (hi := hi5) ?_ (by omega) (by simp [World.setCell]; omega)
        repeat (refine DrawnDb.off ?_ rfl (by simp only []; omega))
        exact HDB
      · refine Cur.below' (C := w.heap.size) HC4 ?_ hcb
        repeat (refine Below.setCell ?_ (by simp only []; omega) _)
        exact Below.refl _ _
      · refine turn_on' hbF ?_
        repeat (refine Below.setCell ?_ (by simp only []; omega) _)
        exact Below.refl _ _
    · skip
      go_simp
      (refine (l1Below_any _ cb ba bn bc 5 (by omega) (HC.below' hdr (by omega))).mono ?_)
      rintro e wA ⟨x, rfl, hx0, hx1, hx2, HC2, kA⟩
      have tA : Turn cb (cb + 1) w5 wA := (turn_below hdr (Nat.le_refl _)).trans kA.turn
      have sA := tA.size
      have hbA := hb6.trans tA
      have hoA := ho.turn tA (by omega)
      have x2 := txc tA X_0
      have xf2 := txf tA X_f0
      have r2 := txc tA R_0
      have rf2 := txf tA R_f0
      clear X_0 X_f0 R_0 R_f0
      clear hx2 kA tA ho HC
      obtain ⟨kx, rfl⟩ := Int.eq_ofNat_of_zero_le hx0
      have hkx : kx < 5 := by
        have := hx1 (by omega)
        omega
      clear hx0 hx1 xd0
      refine hK9.out _ _ trivial (fun hHeld => ?_)
      clear hK9 K9
      try simp only [Act.put, lgA, lgB, lgC, lgD, lgE, lgF]
      refine wpAnyH_ready (rs := [1]) (by kernel_rfl) (by simp) ?_
      refine AllReadyH.cons rfl (fun K9 hK9 => ?_) AllReadyH.nil
      go_simp
      refine hK9.out _ _ trivial (fun hHeld => ?_)
      clear hK9 K9
      try simp only [Act.put, lgA, lgB, lgC, lgD, lgE, lgF]
      have hkx5 : (kx : Int) ≤ 5 := by omega
      have hcap5 := (oTl_cap hoA).2.1
      have hck : ¬ c = kx := by omega
      refine wpAnyH_take (i := 4) (v := .slice (some ⟨g, kx * 3, none⟩) (5 - kx) (c - kx)) rfl (by kernel_rfl) (by kernel_rfl) (by kernel_rfl) (fun _ _ _ h => h) (Or.inl ⟨by rfl, ?_⟩) (by assumption) ?_
      · intro w hSw; (try dsimp only at hSw); go_simp
      try simp only [Act.put, lgA, lgB, lgC, lgD, lgE, lgF]
      refine wpAnyH_take (i := 5) (v := ?v5_27) rfl (by kernel_rfl) (by kernel_rfl) (by kernel_rfl) (fun _ _ _ h => h) (Or.inl ⟨by rfl, ?hy5_27⟩) (by assumption) ?rest5_27
      case hy5_27 => intro w hSw; (try dsimp only at hSw); go_simp; (try with_reducible rfl)
      try simp only [Act.put, lgA, lgB, lgC, lgD, lgE, lgF]
      refine wpAnyH_ready (rs := [6]) (by kernel_rfl) (by simp) ?_
      refine AllReadyH.cons rfl (fun K9 hK9 => ?_) AllReadyH.nil
      go_simp
      obtain ⟨wF, hwF⟩ : ∃ W, W = wA.setCell ⟨w2.heap.size, 0, none⟩ (.slice (some ⟨g, kx * 3, none⟩) (5 - kx) (c - kx)) := ⟨_, rfl⟩
      rw [← hwF]
      have x4 : wF.cell? ⟨w2.heap.size, 0, none⟩ = some (.slice (some ⟨g, kx * 3, none⟩) (5 - kx) (c - kx)) := by rw [hwF]; simp [go_sem, x2]
      have zF : Below w2.heap.size wA wF := by rw [hwF]; exact Below.setCell (Below.refl _ _) (by simp only []; omega) _
      have r4 := bxc zF r2
      have rf4 := bxf zF rf2
      have sF := zF.size
      have HC4 := HC2.below' zF (by omega)
      have hbF := turn_on' hbA (zF.mono (by omega))
      have oF : DrawnDb lo4 hi5 wF (some ⟨g, kx * 3, none⟩) (5 - kx) (c - kx) (ts.drop kx) := ⟨g, 5, c, kx, ts, rfl, rfl, rfl, by omega, hcap5, by rw [hwF]; exact own_off hoA rfl (by simp only []; omega), rfl⟩
      clear hwF x2 xf2 r2 rf2 HC2 hoA
      refine hK9.out _ _ trivial (fun hHeld => ?_)
      clear hK9 K9
      try simp only [Act.put, lgA, lgB, lgC, lgD, lgE, lgF]
      refine wpAnyH_done (by kernel_rfl) ?_ _
      refine NoPanic.normal ?_
      obtain ⟨ts2, hts2⟩ : ∃ q, ts.drop kx = q := ⟨_, rfl⟩
      rw [hts2] at oF
      obtain ⟨n5, hn5⟩ : ∃ q, 5 - kx = q := ⟨_, rfl⟩
      obtain ⟨c5, hc5⟩ : ∃ q, c - kx = q := ⟨_, rfl⟩
      rw [hn5, hc5] at oF x4 ⊢
      clear hn5 hc5 hts2
      go_wp2_with fail
      refine bodyPost_ret (v := .agg #[.slice (some ⟨g, kx * 3, none⟩) n5 c5]) (by simp [results, Tryz.results26, go_sem, r4, rf4]) rfl ?_
      have HDB : DrawnDb lo4 hi5 _ (some ⟨g, kx * 3, none⟩) n5 c5 ts2 := oF
      first | refine ⟨some ⟨g, kx * 3, none⟩, n5, c5, ts2, rfl, ?_, ?_, ?_⟩ | refine ⟨some ⟨g, kx * 3, none⟩, n5, c5, rfl, ts2, ?_, ?_, ?_⟩
      · refine DrawnDb.mono (lo := lo4) (hi := hi5) ?_ (by omega) (by simp [World.setCell]; omega)
        repeat (refine DrawnDb.off ?_ rfl (by simp only []; omega))
        exact HDB
      · refine Cur.below' (C := w.heap.size) HC4 ?_ hcb
        repeat (refine Below.setCell ?_ (by simp only []; omega) _)
        exact Below.refl _ _
      · refine turn_on' hbF ?_
        repeat (refine Below.setCell ?_ (by simp only []; omega) _)
        exact Below.refl _ _
  by_cases a3 : k1 = 3
  · subst a3
    go_wp2_with fail
    obtain ⟨lo7, hlo7⟩ : ∃ q, q = w5.heap.size := ⟨_, rfl⟩
    have HC_o := HC
    clear HC
    refine (l4Tab_any _ cb ba bn bc (ByteArray.mk #[119]) 1 2 3 (by omega) (by omega) (by omega) HC_o (by omega)).mono ?_
    rintro e w28 ⟨b2, n2, c2, rows2, rfl, ho2, hrl2, hrr2, HC, z28⟩
    clear HC_o
    have s29 := z28.size
    have hb29 := hb6.trans z28
    replace R_0 := txc z28 R_0
    replace R_f0 := txf z28 R_f0
    replace ho := ho.turn z28 (by omega)
    replace X_0 := txc z28 X_0
    replace X_f0 := txf z28 X_f0
    rw [← hlo7] at ho2
    obtain ⟨hi7, hhi7⟩ : ∃ q, q = w28.heap.size := ⟨_, rfl⟩
    rw [← hhi7] at ho2
    have hl7 : hi5 + 1 ≤ lo7 ∧ lo7 ≤ hi7 := by omega
    clear hrr2
    obtain ⟨w30, hw30⟩ : ∃ W, W = w28.alloc (.cells #[.string (ByteArray.mk #[119]), .int .i64 1, .slice b2 n2 c2] 41) := ⟨_, rfl⟩
    have z30 : Below w28.heap.size w28 w30 := by rw [hw30]; exact (Below.refl _ _).alloc (Nat.le_refl _) _
    have s30 : w30.heap.size = w28.heap.size + 1 := by rw [hw30]; simp
    have hb30 := turn_on' hb29 (z30.mono (by omega))
    have old30_R_0 := R_0
    have old30_X_0 := X_0
    replace HC := HC.below' z30 (by omega)
    replace R_0 := bxc z30 R_0
    replace R_f0 := bxf z30 R_f0
    replace ho := ho.below z30 (by omega)
    replace X_0 := bxc z30 X_0
    replace X_f0 := bxf z30 X_f0
    replace ho2 := ho2.below z30 (by omega)
    have T_0 : w30.cell? ⟨w28.heap.size, 0, none⟩ = some (.string (ByteArray.mk #[119])) := by rw [hw30]; exact box_cell (Below.refl _ _) rfl
    have T_1 : w30.cell? ⟨w28.heap.size, 1, none⟩ = some (.int .i64 1) := by rw [hw30]; exact box_cell (Below.refl _ _) rfl
    have T_2 : w30.cell? ⟨w28.heap.size, 2, none⟩ = some (.slice b2 n2 c2) := by rw [hw30]; exact box_cell (Below.refl _ _) rfl
    have raw30_R_0 := R_0
    have raw30_R_f0 := R_f0
    have raw30_X_0 := X_0
    have raw30_X_f0 := X_f0
    have raw30_T_0 := T_0
    have raw30_T_1 := T_1
    have raw30_T_2 := T_2
    rw [hw30] at raw30_R_0 raw30_R_f0 raw30_X_0 raw30_X_f0 raw30_T_0 raw30_T_1 raw30_T_2
    go_wp2_with fail
    rw [← hw30]
    clear hw30
    clear old30_R_0 old30_X_0 raw30_R_0 raw30_R_f0 raw30_X_0 raw30_X_f0 raw30_T_0 raw30_T_1 raw30_T_2
    obtain ⟨lo8, hlo8⟩ : ∃ q, q = w30.heap.size := ⟨_, rfl⟩
    have HC_o := HC
    clear HC
    refine (l4Tab_any _ cb ba bn bc (ByteArray.mk #[120]) 1 2 3 (by omega) (by omega) (by omega) HC_o (by omega)).mono ?_
    rintro e w31 ⟨b3, n3, c3, rows3, rfl, ho3, hrl3, hrr3, HC, z31⟩
    clear HC_o
    have s32 := z31.size
    have hb32 := hb30.trans z31
    replace R_0 := txc z31 R_0
    replace R_f0 := txf z31 R_f0
    replace ho := ho.turn z31 (by omega)
    replace X_0 := txc z31 X_0
    replace X_f0 := txf z31 X_f0
    replace ho2 := ho2.turn z31 (by omega)
    replace T_0 := txc z31 T_0
    replace T_1 := txc z31 T_1
    replace T_2 := txc z31 T_2
    rw [← hlo8] at ho3
    obtain ⟨hi8, hhi8⟩ : ∃ q, q = w31.heap.size := ⟨_, rfl⟩
    rw [← hhi8] at ho3
    have hl8 : hi7 ≤ lo8 ∧ lo8 ≤ hi8 := by omega
    clear hrr3
    obtain ⟨w33, hw33⟩ : ∃ W, W = w31.alloc (.cells #[.string (ByteArray.mk #[120]), .int .i64 1, .slice b3 n3 c3] 41) := ⟨_, rfl⟩
    have z33 : Below w31.heap.size w31 w33 := by rw [hw33]; exact (Below.refl _ _).alloc (Nat.le_refl _) _
    have s33 : w33.heap.size = w31.heap.size + 1 := by rw [hw33]; simp
    have hb33 := turn_on' hb32 (z33.mono (by omega))
    have old33_R_0 := R_0
    have old33_X_0 := X_0
    have old33_T_0 := T_0
    have old33_T_1 := T_1
    have old33_T_2 := T_2
    replace HC := HC.below' z33 (by omega)
    replace R_0 := bxc z33 R_0
    replace R_f0 := bxf z33 R_f0
    replace ho := ho.below z33 (by omega)
    replace X_0 := bxc z33 X_0
    replace X_f0 := bxf z33 X_f0
    replace ho2 := ho2.below z33 (by omega)
    replace T_0 := bxc z33 T_0
    replace T_1 := bxc z33 T_1
    replace T_2 := bxc z33 T_2
    replace ho3 := ho3.below z33 (by omega)
    have U_0 : w33.cell? ⟨w31.heap.size, 0, none⟩ = some (.string (ByteArray.mk #[120])) := by rw [hw33]; exact box_cell (Below.refl _ _) rfl
    have U_1 : w33.cell? ⟨w31.heap.size, 1, none⟩ = some (.int .i64 1) := by rw [hw33]; exact box_cell (Below.refl _ _) rfl
    have U_2 : w33.cell? ⟨w31.heap.size, 2, none⟩ = some (.slice b3 n3 c3) := by rw [hw33]; exact box_cell (Below.refl _ _) rfl
    have raw33_R_0 := R_0
    have raw33_R_f0 := R_f0
    have raw33_X_0 := X_0
    have raw33_X_f0 := X_f0
    have raw33_T_0 := T_0
    have raw33_T_1 := T_1
    have raw33_T_2 := T_2
    have raw33_U_0 := U_0
    have raw33_U_1 := U_1
    have raw33_U_2 := U_2
    rw [hw33] at raw33_R_0 raw33_R_f0 raw33_X_0 raw33_X_f0 raw33_T_0 raw33_T_1 raw33_T_2 raw33_U_0 raw33_U_1 raw33_U_2
    have oTb : Own oT lo7 hi7 w33 [.string (ByteArray.mk #[119]), .int .i64 1, .slice b2 n2 c2] (ByteArray.mk #[119], 1, rows2) := oT_mk (x := (ByteArray.mk #[119], 1, rows2)) (show (ByteArray.mk #[119]).size ≤ 9223372036854775807 by decide) (show I64 1 by constructor <;> decide) ho2 (Nat.le_refl _) (Nat.le_refl _)
    have oUb : Own oT lo8 hi8 w33 [.string (ByteArray.mk #[120]), .int .i64 1, .slice b3 n3 c3] (ByteArray.mk #[120], 1, rows3) := oT_mk (x := (ByteArray.mk #[120], 1, rows3)) (show (ByteArray.mk #[120]).size ≤ 9223372036854775807 by decide) (show I64 1 by constructor <;> decide) ho3 (Nat.le_refl _) (Nat.le_refl _)
    have oP : Own oTl lo7 (w33.heap.size + 1) (w33.alloc (.cells #[.string (ByteArray.mk #[119]), .int .i64 1, .slice b2 n2 c2, .string (ByteArray.mk #[120]), .int .i64 1, .slice b3 n3 c3] 41)) [.slice (some ⟨w33.heap.size, 0, none⟩) 2 2] [(ByteArray.mk #[119], 1, rows2), (ByteArray.mk #[120], 1, rows3)] := own_twolit oTb oUb (by omega) (by omega) (by omega) (by omega)
    have zP : Below w33.heap.size w33 (w33.alloc (.cells #[.string (ByteArray.mk #[119]), .int .i64 1, .slice b2 n2 c2, .string (ByteArray.mk #[120]), .int .i64 1, .slice b3 n3 c3] 41)) := (Below.refl _ _).alloc (Nat.le_refl _) _
    have sP := zP.size
    obtain ⟨v9, wn, hrn, _, hzn, on_⟩ := own_tabs 24 (ho.below zP (by omega)) oP (by simp) (by omega) (by omega) (by omega) (by simp [htl])
    have hbN := turn_on' (turn_on' hb33 (zP.mono (by omega))) ((hzn.below (by omega)).mono (by omega))
    have R_0n := (hzn.cell (p := ⟨w.heap.size, 0, none⟩) (by simp only []; omega) (by simp only []; omega)).trans ((zP.cell (p := ⟨w.heap.size, 0, none⟩) (by simp only []; omega)).trans R_0)
    have R_f0n := (hzn.frozen (p := ⟨w.heap.size, 0, none⟩) (by simp only []; omega) (by simp only []; omega)).trans ((zP.frozen (p := ⟨w.heap.size, 0, none⟩) (by simp only []; omega)).trans R_f0)
    have X_0n := (hzn.cell (p := ⟨w2.heap.size, 0, none⟩) (by simp only []; omega) (by simp only []; omega)).trans ((zP.cell (p := ⟨w2.heap.size, 0, none⟩) (by simp only []; omega)).trans X_0)
    have X_f0n := (hzn.frozen (p := ⟨w2.heap.size, 0, none⟩) (by simp only []; omega) (by simp only []; omega)).trans ((zP.frozen (p := ⟨w2.heap.size, 0, none⟩) (by simp only []; omega)).trans X_f0)
    have HCn := (HC.below' zP (by omega)).below' (hzn.below (by omega)) (by omega)
    have sn := hzn.size
    obtain ⟨xn, hxn⟩ : ∃ q, q = wn.heap.size := ⟨_, rfl⟩
    rw [← hxn] at on_
    have oX := on_ ⟨w2.heap.size, 0, none⟩ v9 (by simp only []; omega) (by simp only []; omega)
    obtain ⟨na, nn, nc, rfl⟩ := oTl_form1 oX
    rw [s33] at hrn
    rw [hw33] at hrn
    clear R_0 R_f0 X_0 X_f0 HC ho ho2 ho3 oTb oUb oP zP hzn on_
    go_wp2_with ((at_builtin; refine wpList_app_run hrn rfl rfl rfl rfl rfl ?_))
    refine bodyPost_ret (v := .agg #[.slice na nn nc]) (by simp [results, Tryz.results26, go_sem, R_0n, R_f0n]) rfl ?_
    obtain ⟨g3, rfl⟩ := (oTl_some oX (by rw [List.length_append]; simp)).2
    have HDB : DrawnDb lo4 xn _ (some ⟨g3, 0, none⟩) nn nc (ts ++ [(ByteArray.mk #[119], 1, rows2), (ByteArray.mk #[120], 1, rows3)]) := DrawnDb.of oX
    first | refine ⟨some ⟨g3, 0, none⟩, nn, nc, (ts ++ [(ByteArray.mk #[119], 1, rows2), (ByteArray.mk #[120], 1, rows3)]), rfl, ?_, ?_, ?_⟩ | refine ⟨some ⟨g3, 0, none⟩, nn, nc, rfl, (ts ++ [(ByteArray.mk #[119], 1, rows2), (ByteArray.mk #[120], 1, rows3)]), ?_, ?_, ?_⟩
    · refine DrawnDb.mono (lo := lo4) (hi := xn) ?_ (by omega) (by simp [World.setCell]; omega)
      repeat (refine DrawnDb.off ?_ rfl (by simp only []; omega))
      exact HDB
    · refine Cur.below' (C := w.heap.size) HCn ?_ hcb
      repeat (refine Below.setCell ?_ (by simp only []; omega) _)
      exact Below.refl _ _
    · refine turn_on' hbN ?_
      repeat (refine Below.setCell ?_ (by simp only []; omega) _)
      exact Below.refl _ _
  have n0 : (k1 == 0) = false := by rw [beq_eq_false_iff_ne]; exact a0
  have n1 : (k1 == 1) = false := by rw [beq_eq_false_iff_ne]; exact a1
  have n2 : (k1 == 2) = false := by rw [beq_eq_false_iff_ne]; exact a2
  have n3 : (k1 == 3) = false := by rw [beq_eq_false_iff_ne]; exact a3
  go_wp2_with fail
  refine bodyPost_ret (v := .agg #[.slice (some ⟨g, 0, none⟩) 5 c]) (by simp [results, Tryz.results26, go_sem, R_0, R_f0]) rfl ?_
  have HDB : DrawnDb lo4 hi5 _ (some ⟨g, 0, none⟩) 5 c ts := DrawnDb.of ho
  first | refine ⟨some ⟨g, 0, none⟩, 5, c, ts, rfl, ?_, ?_, ?_⟩ | refine ⟨some ⟨g, 0, none⟩, 5, c, rfl, ts, ?_, ?_, ?_⟩
  · refine DrawnDb.mono (lo := lo4) (hi := hi5) ?_ (by omega) (by simp [World.setCell]; omega)
    repeat (refine DrawnDb.off ?_ rfl (by simp only []; omega))
    exact HDB
  · refine Cur.below' (C := w.heap.size) HC ?_ hcb
    repeat (refine Below.setCell ?_ (by simp only []; omega) _)
    exact Below.refl _ _
  · refine turn_on' hb6 ?_
    repeat (refine Below.setCell ?_ (by simp only []; omega) _)
    exact Below.refl _ _

end Go.Proofs.YtpgfkjcekhifiaaGreatDoor

namespace Go.Proofs.YtpgfkjcekhifiaaGreatDoor

open Go.RowKit

set_option linter.unusedVariables false

set_option linter.unusedSimpArgs false

set_option synthInstance.maxSize 2000

set_option synthInstance.maxHeartbeats 400000

theorem colsFrom_len {n : Int} : ∀ {p : Int} {xs : List Int}, -1 ≤ p → p ≤ n - 1 → colsFrom n p xs = true → (xs.length : Int) ≤ n - 1 - p
  | p, [], h1, h2, _ => by simp; omega
  | p, v :: t, h1, h2, h => by
    simp only [colsFrom, Bool.and_eq_true, decide_eq_true_eq, betw] at h
    have := colsFrom_len (p := v) (xs := t) (by omega) (by omega) h.2
    simp only [List.length_cons]; omega

theorem colsB_len {n : Int} {xs : List Int} (hn : 0 ≤ n) (h : colsB n xs = true) : (xs.length : Int) ≤ n := by
  have := colsFrom_len (n := n) (p := -1) (xs := xs) (by omega) (by omega) h
  omega

def violB (fr : List Int) (to : Nat) (x y : List Int) : Bool := decide (sel x fr = sel y fr) && (x.getD to 0 != y.getD to 0)

def orElse (a b : List Int) : List Int := if a = [] then b else a

def violIn (fr : List Int) (to : Nat) (y : List Int) (k : Nat) : Nat → List (List Int) → List Int
  | _, [] => []
  | i, x :: t => if violB fr to x y then [(i : Int), (k : Int)] else violIn fr to y k (i + 1) t

def violOut (fr : List Int) (to : Nat) (rows : List (List Int)) : Nat → List (List Int) → List Int
  | _, [] => []
  | k, y :: t => orElse (violIn fr to y k 0 (rows.take k)) (violOut fr to rows (k + 1) t)

def viol (db : DDb) (f : DDp) : List Int := if validDp db f then violOut f.2.1 f.2.2.toNat (lookT (look db f.1)).2.2 0 (lookT (look db f.1)).2.2 else []

theorem violOut_at {fr : List Int} {to k : Nat} {rows : List (List Int)} {y : List Int} (h : rows[k]? = some y) : violOut fr to rows k (rows.drop k) = orElse (violIn fr to y k 0 ((rows.take k).drop 0)) (violOut fr to rows (k + 1) (rows.drop (k + 1))) := by
  rw [drop_at h]; rfl

theorem violOut_end {fr : List Int} {to k : Nat} {rows : List (List Int)} (h : rows.length ≤ k) : violOut fr to rows k (rows.drop k) = [] := by
  rw [List.drop_eq_nil_of_le h]; rfl

theorem violIn_yes {fr : List Int} {to i k : Nat} {rows : List (List Int)} {x y : List Int} (hi : i < k) (h : rows[i]? = some x) (hv : violB fr to x y = true) (r : List Int) : orElse (violIn fr to y k i ((rows.take k).drop i)) r = [(i : Int), (k : Int)] := by
  rw [drop_at (show (rows.take k)[i]? = some x by rw [List.getElem?_take_of_lt hi]; exact h), violIn, if_pos hv]; rfl

theorem violIn_no {fr : List Int} {to i k : Nat} {rows : List (List Int)} {x y : List Int} (hi : i < k) (h : rows[i]? = some x) (hv : violB fr to x y = false) (r : List Int) : orElse (violIn fr to y k i ((rows.take k).drop i)) r = orElse (violIn fr to y k (i + 1) ((rows.take k).drop (i + 1))) r := by
  rw [drop_at (show (rows.take k)[i]? = some x by rw [List.getElem?_take_of_lt hi]; exact h), violIn, if_neg (by simp [hv])]

theorem violIn_end {fr : List Int} {to i k : Nat} {rows : List (List Int)} {y : List Int} (hi : k ≤ i) (r : List Int) : orElse (violIn fr to y k i ((rows.take k).drop i)) r = r := by
  rw [List.drop_eq_nil_of_le (by have := List.length_take_le k rows; omega)]; rfl

theorem own_two {W : World} {a b : Int} (ha : I64 a) (hb : I64 b) : Own oI W.heap.size (W.heap.size + 1) (W.alloc (.cells #[.int .i64 a, .int .i64 b] 3)) [.slice (some ⟨W.heap.size, 0, none⟩) 2 2] [a, b] := by
  have h : OwnInts W.heap.size (W.alloc (.cells #[.int .i64 a, .int .i64 b] 3)) (.slice (some ⟨W.heap.size, 0, none⟩) 2 2) 2 [a, b] :=
    ⟨rfl, ⟨rfl, .inr ⟨W.heap.size, 2, #[.int .i64 a, .int .i64 b], rfl, Nat.le_refl _, heap_alloc_new W _, Nat.le_refl _, by unfold maxLen; omega, rfl, rfl⟩⟩, by intro x hx; simp at hx; rcases hx with rfl | rfl <;> assumption⟩
  have h9 := h.own
  simpa using h9

theorem validDp_facts {db : DDb} {m1 : ByteArray} {fr : List Int} {to : Int} (h : validDp db (m1, fr, to) = true) : (look db m1).isSome = true ∧ fr.length ≤ 3 ∧ ∃ tn : Nat, to = (tn : Int) ∧ (tn : Int) < (lookT (look db m1)).2.1 := by
  simp only [validDp, Bool.and_eq_true, betw, decide_eq_true_eq] at h
  obtain ⟨h1, h2, ⟨h3, h4⟩, _⟩ := h
  have hA := (look_okT h1).ar
  have := colsB_len (by omega) h2
  exact ⟨h1, by omega, to.toNat, by omega, by omega⟩

end Go.Proofs.YtpgfkjcekhifiaaGreatDoor

namespace Go.Proofs.YtpgfkjcekhifiaaGreatDoor

open Go.RowKit

set_option linter.unusedVariables false

set_option linter.unusedSimpArgs false

theorem maskIn_bits8 : ∀ m : Fin 8, maskIn (bitsTo m.val 3) = m.val := by decide

theorem closure_idem (ds : List DDp) (name : ByteArray) (cs : List Int) : closure ds name (closure ds name cs) = closure ds name cs := by
  have h8 := maskIn_lt cs
  have hc := clo_lt (name := name) (ds := ds) h8
  unfold closure
  rw [maskIn_bits8 ⟨_, hc⟩]
  rw [clo_stop (clo_fix h8)]

theorem minTo_mem {key : Nat → Bool} : ∀ {s x : Nat}, x ∈ minTo key s → x < s ∧ key x = true ∧ (minTo key x).all (fun k => !decide (k &&& x = k)) = true
  | 0, x, h => by cases h
  | s + 1, x, h => by
    rw [minTo] at h
    split at h
    · rename_i h9
      rw [Bool.and_eq_true] at h9
      rcases List.mem_append.1 h with h | h
      · have := minTo_mem h
        exact ⟨by omega, this.2⟩
      · rw [List.mem_singleton] at h
        subst h
        exact ⟨by omega, h9.2, h9.1⟩
    · have := minTo_mem h
      exact ⟨by omega, this.2⟩

theorem drop_bits8 : ∀ m : Fin 8, 0 < (bitsTo m.val 3).length → ∃ k : Fin 8, (bitsTo m.val 3).drop 1 = bitsTo k.val 3 ∧ k.val < m.val ∧ k.val &&& m.val = k.val := by decide

theorem cover_all {l : List Int} {n : Nat} : ∀ {f v : Nat}, v + f ≤ n → (∀ u : Nat, u < n → has l (u : Int) = true) → coverFrom l n f v = true
  | 0, _, _, _ => rfl
  | f + 1, v, h, k => by
    rw [coverFrom, k v (by omega), cover_all (f := f) (v := v + 1) (by omega) k]
    rfl

theorem full_has : ∀ n : Fin 4, ∀ m : Fin 8, (2 ^ n.val - 1) &&& m.val = 2 ^ n.val - 1 → ∀ u : Fin 4, u.val < n.val → has (bitsTo m.val 3) (u.val : Int) = true := by decide

theorem clo_sub (name : ByteArray) (ds : List DDp) (m : Nat) : m &&& clo name ds m = m :=
  sub_trans (passM_sub name ds m) (sub_trans (passM_sub name ds _) (passM_sub name ds _))

theorem full_cols : ∀ n : Fin 4, colsB (n.val : Int) (bitsTo (2 ^ n.val - 1) 3) = true := by decide

theorem full_key {ds : List DDp} {t : DT} (h : validT t = true) : keyM ds t (2 ^ t.2.1.toNat - 1) = true := by
  have hA := (TOk.of h).ar
  obtain ⟨n, hn⟩ : ∃ n : Nat, t.2.1.toNat = n := ⟨_, rfl⟩
  have hn3 : n < 4 := by omega
  have hp : 2 ^ n - 1 < 8 := by
    have : 2 ^ n ≤ 2 ^ 3 := Nat.pow_le_pow_right (by omega) (by omega)
    omega
  unfold keyM isKey
  rw [hn]
  have h1 : colsT t (bitsTo (2 ^ n - 1) 3) = true := by
    have := full_cols ⟨n, hn3⟩
    simp only at this
    unfold colsT
    rw [h, show t.2.1 = (n : Int) by omega, this]
    rfl
  rw [h1, Bool.true_and]
  unfold coverB
  refine cover_all (by omega) (fun u hu => ?_)
  have hm : maskIn (bitsTo (2 ^ n - 1) 3) = 2 ^ n - 1 := maskIn_bits8 ⟨_, hp⟩
  unfold closure
  rw [hm]
  exact full_has ⟨n, hn3⟩ ⟨_, clo_lt hp⟩ (clo_sub _ _ _) ⟨u, by omega⟩ hu

theorem minKeys_mem {ds : List DDp} {t : DT} {k : List Int} (h : k ∈ minKeys ds t) : isKey ds t k = true ∧ (0 < k.length → isKey ds t (k.drop 1) = false) := by
  unfold minKeys at h
  split at h
  · rename_i hv
    obtain ⟨m, hm, rfl⟩ := List.mem_map.1 h
    obtain ⟨hlt, hk, hall⟩ := minTo_mem hm
    have hA := (TOk.of hv).ar
    have hp : 2 ^ t.2.1.toNat ≤ 2 ^ 3 := Nat.pow_le_pow_right (by omega) (by omega)
    refine ⟨hk, fun hl => ?_⟩
    obtain ⟨j, hj, hjm, hjs⟩ := drop_bits8 ⟨m, by omega⟩ hl
    simp only at hj hjm hjs
    rw [hj]
    cases hkey : isKey ds t (bitsTo j.val 3) with
    | false => rfl
    | true =>
      exfalso
      obtain ⟨x, hx, hxs⟩ := minTo_cover (key := keyM ds t) (s := m) (x := j.val) hjm hkey
      have h3 := List.all_eq_true.1 hall x hx
      have h4 : x &&& m = x := sub_trans hxs hjs
      simp [h4] at h3
  · cases h

theorem minKeys_pos {ds : List DDp} {t : DT} (h : validT t = true) : 0 < (minKeys ds t).length := by
  have hk := full_key (ds := ds) h
  have hp := Nat.two_pow_pos t.2.1.toNat
  obtain ⟨x, hx, _⟩ := minTo_cover (key := keyM ds t) (s := 2 ^ t.2.1.toNat) (x := 2 ^ t.2.1.toNat - 1) (by omega) hk
  unfold minKeys
  rw [if_pos h, List.length_map]
  exact List.length_pos_of_mem hx

end Go.Proofs.YtpgfkjcekhifiaaGreatDoor

namespace Go.Proofs.YtpgfkjcekhifiaaGreatDoor

open Go.RowKit

set_option linter.unusedVariables false

set_option linter.unusedSimpArgs false

set_option synthInstance.maxSize 2000

set_option synthInstance.maxHeartbeats 400000

set_option maxHeartbeats 4000000 in
theorem viol_impl (cs ds : List Value) (db : DDb) (x : DDp) (w : World) (h : rDb.rep w cs db) (h' : rDp.rep w ds x) :
    Calls Tryz.prog 6 #[.agg cs.toArray, .agg ds.toArray] w fun e w' => ∃ u, e = .returned u ∧ Own oI w.heap.size w'.heap.size w' [u] (viol db x) ∧ Below w.heap.size w w' := by
  obtain ⟨ub, un, uc, rfl, g1⟩ := rDb_open h
  obtain ⟨fb, fn, fc, rfl, hs0, gf, hi2⟩ := rDp_open h'
  have hcv := fun W (hW : Below w.heap.size w W) => validDp_impl _ _ db x W (rDb.mono h hW) (rDp.mono h' hW)
  obtain ⟨m1, fr, to⟩ := x
  simp only at hs0 gf hi2 hcv
  have i0 := rI_ints gf
  have hck := fun W (hW : Below w.heap.size w W) => lookI_any [.slice ub un uc] db m1 W (rDb.mono h hW)
  have HCV := Lib.hid hcv
  have HCK := Lib.hid hck
  have hfl := i0.len
  clear hcv hck h h' g1 gf hs0
  have hb0 : Below w.heap.size w w := Below.refl _ _
  go_enter Tryz.func6, Tryz.ntmps6
  obtain ⟨w1, hw1⟩ : ∃ W, W = w.alloc (.cells #[.slice ub un uc] 26) := ⟨_, rfl⟩
  have z1 : Below w.heap.size w w1 := by rw [hw1]; exact (Below.refl _ _).alloc (Nat.le_refl _) _
  have s1 : w1.heap.size = w.heap.size + 1 := by rw [hw1]; simp
  have hb1 := on hb0 z1
  have b_0 : w1.cell? ⟨w.heap.size, 0, none⟩ = some (.slice ub un uc) := by rw [hw1]; exact box_cell (Below.refl _ _) rfl
  have raw1_b_0 := b_0
  rw [hw1] at raw1_b_0
  obtain ⟨w2, hw2⟩ : ∃ W, W = w1.alloc (.cells #[.string m1, .slice fb fn fc, .int .i64 to] 29) := ⟨_, rfl⟩
  have z2 : Below w1.heap.size w1 w2 := by rw [hw2]; exact (Below.refl _ _).alloc (Nat.le_refl _) _
  have s2 : w2.heap.size = w1.heap.size + 1 := by rw [hw2]; simp
  have hb2 := on hb1 z2
  replace b_0 := bxc z2 b_0
  have e2 : w1.heap.size = w.heap.size + 1 := by omega
  have x_0 : w2.cell? ⟨w1.heap.size, 0, none⟩ = some (.string m1) := by rw [hw2]; exact box_cell (Below.refl _ _) rfl
  have x_1 : w2.cell? ⟨w1.heap.size, 1, none⟩ = some (.slice fb fn fc) := by rw [hw2]; exact box_cell (Below.refl _ _) rfl
  have x_2 : w2.cell? ⟨w1.heap.size, 2, none⟩ = some (.int .i64 to) := by rw [hw2]; exact box_cell (Below.refl _ _) rfl
  rw [e2] at x_0 x_1 x_2
  have raw2_b_0 := b_0
  have raw2_x_0 := x_0
  have raw2_x_1 := x_1
  have raw2_x_2 := x_2
  rw [hw2, hw1] at raw2_b_0 raw2_x_0 raw2_x_1 raw2_x_2
  go_wp2_with fail
  rw [← hw1]
  rw [← hw2]
  clear hw2 hw1
  clear raw1_b_0 raw2_b_0 raw2_x_0 raw2_x_1 raw2_x_2
  refine (HCV.out _ hb2).mono ?_
  rintro e w9 ⟨rfl, z9⟩
  have s3 := z9.size
  have hb3 := on hb2 z9
  replace b_0 := bxc z9 b_0
  replace x_0 := bxc z9 x_0
  replace x_1 := bxc z9 x_1
  replace x_2 := bxc z9 x_2
  by_cases hv : validDp db (m1, fr, to) = true
  case neg =>
    replace hv : validDp db (m1, fr, to) = false := by simpa using hv
    have HE : Hid (viol db (m1, fr, to) = []) := Lib.hid (by simp [viol, hv])
    rw [hv]
    go_wp2_with fail
    go_ret
    exact ⟨_, rfl, by rw [HE.out]; exact own_nil_S.mono (Nat.le_refl _) (by omega), hb3⟩
  obtain ⟨hsm, hf3, tn, rfl, htn⟩ := validDp_facts hv
  have hok := look_okT hsm
  have HE : Hid (viol db (m1, fr, (tn : Int)) = violOut fr tn (lookT (look db m1)).2.2 0 ((lookT (look db m1)).2.2.drop 0)) := Lib.hid (by simp [viol, hv])
  rw [hv]
  clear hv
  go_wp2_with fail
  refine (HCK.out _ hb3).mono ?_
  rintro e w10 ⟨vb, vn, vc, rfl, ho, z10⟩
  obtain ⟨t, ht⟩ : ∃ t, lookT (look db m1) = t := ⟨_, rfl⟩
  rw [ht] at hok htn HE ho ⊢
  rw [hsm]
  obtain ⟨ns, A, rows⟩ := t
  simp only at htn HE ho
  have hA := hok.ar
  have hrow := hok.row
  simp only at hA hrow
  have s4 := z10.size
  have hb4 := on hb3 z10
  replace b_0 := bxc z10 b_0
  replace x_0 := bxc z10 x_0
  replace x_1 := bxc z10 x_1
  replace x_2 := bxc z10 x_2
  obtain ⟨vb2, vn2, vc2, he9, hs9, hi9, gr⟩ := rT_open (ho.rd reads_T)
  simp at he9 hs9 hi9 gr
  obtain ⟨rfl, rfl, rfl⟩ := he9
  have t1 := rS_sl gr
  obtain ⟨hcap, hcap2⟩ := rS_cap gr
  have hl := t1.len
  have hn := t1.small
  have HL := Lib.hid hl
  have HR := Lib.hid hrow
  clear hok hrow hsm ht ho gr hs9 hi9 HCV HCK hl
  have hT : Below w10.heap.size w10 w10 := Below.refl _ _
  obtain ⟨w5, hw5⟩ : ∃ W, W = w10.alloc (.cells #[.string ns, .int .i64 A, .slice vb vn vc] 41) := ⟨_, rfl⟩
  have z5 : Below w10.heap.size w10 w5 := by rw [hw5]; exact (Below.refl _ _).alloc (Nat.le_refl _) _
  have s5 : w5.heap.size = w10.heap.size + 1 := by rw [hw5]; simp
  have hb5 := on hb4 z5
  have old5_b_0 := b_0
  have old5_x_0 := x_0
  have old5_x_1 := x_1
  have old5_x_2 := x_2
  replace b_0 := bxc z5 b_0
  replace x_0 := bxc z5 x_0
  replace x_1 := bxc z5 x_1
  replace x_2 := bxc z5 x_2
  replace hT := on hT z5
  have t_0 : w5.cell? ⟨w10.heap.size, 0, none⟩ = some (.string ns) := by rw [hw5]; exact box_cell (Below.refl _ _) rfl
  have t_1 : w5.cell? ⟨w10.heap.size, 1, none⟩ = some (.int .i64 A) := by rw [hw5]; exact box_cell (Below.refl _ _) rfl
  have t_2 : w5.cell? ⟨w10.heap.size, 2, none⟩ = some (.slice vb vn vc) := by rw [hw5]; exact box_cell (Below.refl _ _) rfl
  have raw5_b_0 := b_0
  have raw5_x_0 := x_0
  have raw5_x_1 := x_1
  have raw5_x_2 := x_2
  have raw5_t_0 := t_0
  have raw5_t_1 := t_1
  have raw5_t_2 := t_2
  rw [hw5] at raw5_b_0 raw5_x_0 raw5_x_1 raw5_x_2 raw5_t_0 raw5_t_1 raw5_t_2
  go_wp2_with fail
  rw [← hw5]
  clear hw5
  clear old5_b_0 old5_x_0 old5_x_1 old5_x_2 raw5_b_0 raw5_x_0 raw5_x_1 raw5_x_2 raw5_t_0 raw5_t_1 raw5_t_2
  go_loopw [29] (fun k wr => ∃ j : Nat, j ≤ vn ∧ k = .int .i64 j ∧ Hid (viol db (m1, fr, (tn : Int)) = violOut fr tn rows j (rows.drop j)) ∧ Below w5.heap.size w5 wr) (fun k _ => vn - (intOf k).toNat)
  case atStart => exact ⟨0, Nat.zero_le _, rfl, HE.out, Below.refl _ _⟩
  case round =>
    obtain ⟨k, hk, rfl, hE, hdr⟩ := hrel
    obtain ⟨wo, rfl⟩ : ∃ W, W = wr := ⟨_, rfl⟩
    have hlc := hdr
    clear HE
    have s6 := hdr.size
    have hb6 := on hb5 hdr
    replace b_0 := bxc hdr b_0
    replace x_0 := bxc hdr x_0
    replace x_1 := bxc hdr x_1
    replace x_2 := bxc hdr x_2
    replace hT := on hT hdr
    replace t_0 := bxc hdr t_0
    replace t_1 := bxc hdr t_1
    replace t_2 := bxc hdr t_2
    by_cases hlt : k < vn
    · obtain ⟨b1, o1, yb, yn, yc, y, rfl, hcy, hy, iy, _⟩ := t1.row hlt
      have hyA := (HR.out y (List.mem_of_getElem? hy.out)).1
      have hyl := iy.len
      have hytn : tn < yn := by omega
      have hbt1 : b1 < w10.heap.size := cell_lt hcy
      have y0 : wo.cell? ⟨b1, o1 + k, none⟩ = some (.slice yb yn yc) := (hT.cell (p := ⟨b1, o1 + k, none⟩) (cell_lt hcy)).trans hcy
      have HA := Lib.hid (hE.out.trans (violOut_at hy.out))
      obtain ⟨R, hR⟩ : ∃ R, R = violOut fr tn rows (k + 1) (rows.drop (k + 1)) := ⟨_, rfl⟩
      rw [← hR] at HA
      have HR2 := Lib.hid hR
      obtain ⟨yb1, yo1, yv, hye, hcyv, hyv, _, _⟩ := iy.get hytn
      subst hye
      have hbt2 : yb1 < w10.heap.size := cell_lt hcyv
      have yv0 : wo.cell? ⟨yb1, yo1 + tn, none⟩ = some (.int .i64 yv) := (hT.cell (p := ⟨yb1, yo1 + tn, none⟩) (cell_lt hcyv)).trans hcyv
      clear hcyv hcy hE hR hyA hyl
      go_wp2_with fail
      go_loopw [39] (fun i wr => ∃ j : Nat, j ≤ k ∧ i = .int .i64 j ∧ Hid (viol db (m1, fr, (tn : Int)) = orElse (violIn fr tn y k j ((rows.take k).drop j)) R) ∧ Below wo.heap.size wo wr) (fun i _ => k - (intOf i).toNat)
      case atStart => exact ⟨0, Nat.zero_le _, rfl, HA.out, Below.refl _ _⟩
      case round =>
        obtain ⟨i, hi, rfl, hE, hdr⟩ := hrel
        have hld := hdr
        clear HA
        have s7 := hdr.size
        have hb7 := on hb6 hdr
        replace b_0 := bxc hdr b_0
        replace x_0 := bxc hdr x_0
        replace x_1 := bxc hdr x_1
        replace x_2 := bxc hdr x_2
        replace hT := on hT hdr
        replace t_0 := bxc hdr t_0
        replace t_1 := bxc hdr t_1
        replace t_2 := bxc hdr t_2
        replace hlc := on hlc hdr
        replace y0 := bxc hdr y0
        replace yv0 := bxc hdr yv0
        by_cases hlt2 : i < k
        · obtain ⟨b9, o9, xb, xn, xc, x, hb9, hcx, hx, ix, _⟩ := t1.row (show i < vn by omega)
          simp at hb9
          obtain ⟨rfl, rfl⟩ := hb9
          have hxA := (HR.out x (List.mem_of_getElem? hx.out)).1
          have hxl := ix.len
          have hxtn : tn < xn := by omega
          have x0 : wr.cell? ⟨b1, o1 + i, none⟩ = some (.slice xb xn xc) := (hT.cell (p := ⟨b1, o1 + i, none⟩) (cell_lt hcx)).trans hcx
          obtain ⟨xb1, xo1, xv, hxe, hcxv, hxv, _, _⟩ := ix.get hxtn
          subst hxe
          have hbt3 : xb1 < w10.heap.size := cell_lt hcxv
          have xv0 : wr.cell? ⟨xb1, xo1 + tn, none⟩ = some (.int .i64 xv) := (hT.cell (p := ⟨xb1, xo1 + tn, none⟩) (cell_lt hcxv)).trans hcxv
          have hs1 := sel_impl _ _ _ _ xc fc x fr _ (ix.below hT) (i0.below hb7) (by omega)
          have HS1 := Lib.hid hs1
          have hvB : violB fr tn x y = (decide (sel x fr = sel y fr) && (xv != yv)) := by rw [violB, hxv.out, hyv.out]
          have HYes := Lib.hid (violIn_yes (fr := fr) (to := tn) (y := y) hlt2 hx.out · R)
          have HNo := Lib.hid (violIn_no (fr := fr) (to := tn) (y := y) hlt2 hx.out · R)
          rw [hvB] at HYes HNo
          clear hs1 hvB hcx hcxv hxA hxl
          go_wp2_with fail
          refine HS1.out.mono ?_
          rintro e w11 ⟨p1, p2, p3, rfl, o1', z11⟩
          have s8 := z11.size
          have hb8 := on hb7 z11
          replace b_0 := bxc z11 b_0
          replace x_0 := bxc z11 x_0
          replace x_1 := bxc z11 x_1
          replace x_2 := bxc z11 x_2
          replace hT := on hT z11
          replace t_0 := bxc z11 t_0
          replace t_1 := bxc z11 t_1
          replace t_2 := bxc z11 t_2
          replace hlc := on hlc z11
          replace y0 := bxc z11 y0
          replace yv0 := bxc z11 yv0
          replace hld := on hld z11
          replace x0 := bxc z11 x0
          replace xv0 := bxc z11 xv0
          have hs2 := sel_impl _ _ _ _ yc fc y fr _ (iy.below hT) (i0.below hb8) (by omega)
          have HS2 := Lib.hid hs2
          clear hs2
          go_wp2_with fail
          refine HS2.out.mono ?_
          rintro e w12 ⟨q1, q2, q3, rfl, o2', z12⟩
          have s9 := z12.size
          have hb9 := on hb8 z12
          replace b_0 := bxc z12 b_0
          replace x_0 := bxc z12 x_0
          replace x_1 := bxc z12 x_1
          replace x_2 := bxc z12 x_2
          replace hT := on hT z12
          replace t_0 := bxc z12 t_0
          replace t_1 := bxc z12 t_1
          replace t_2 := bxc z12 t_2
          replace hlc := on hlc z12
          replace y0 := bxc z12 y0
          replace yv0 := bxc z12 yv0
          replace hld := on hld z12
          replace x0 := bxc z12 x0
          replace xv0 := bxc z12 xv0
          replace o1' := o1'.below z12 (by omega)
          have heq := fun q => equalInts p1 q1 p2 q2 p3 q3 (sel x fr) (sel y fr) (w12.drewN q) ((rI_ints (o1'.rd reads_I)).drewN q) ((rI_ints (o2'.rd reads_I)).drewN q)
          obtain ⟨g, hg⟩ : ∃ g, decide (sel x fr = sel y fr) = g := ⟨_, rfl⟩
          rw [hg] at HYes HNo
          simp only [hg] at heq
          have HEQ := Lib.hid heq
          clear heq hg o1' o2' HS1 HS2
          cases g with
          | false =>
            have HE2 : Hid (viol db (m1, fr, (tn : Int)) = orElse (violIn fr tn y k (i + 1) ((rows.take k).drop (i + 1))) R) := Lib.hid (by rw [hE.out]; exact HNo.out rfl)
            clear hE HYes HNo
            go_wp2_with fail
            go_quiet ((go_at_call 30; exact quiet_drew (HEQ.out _)))
            go_wp2_with fail
            go_roundw
            case rel => exact ⟨i + 1, by omega, by go_num, HE2.out, onD hld ⟨_, rfl⟩⟩
            case measure => simp [intOf]; omega
          | true =>
            by_cases hxy : xv = yv
            · have HE2 : Hid (viol db (m1, fr, (tn : Int)) = orElse (violIn fr tn y k (i + 1) ((rows.take k).drop (i + 1))) R) := Lib.hid (by rw [hE.out]; exact HNo.out (by simp [hxy]))
              have hd : (xv != yv) = false := by simp [hxy]
              have HXY := Lib.hid hxy
              clear hE HYes HNo hxy
              go_wp2_with fail
              go_quiet ((go_at_call 30; exact quiet_drew (HEQ.out _)))
              go_wp2_with fail
              go_roundw
              case rel => exact ⟨i + 1, by omega, by go_num, HE2.out, onD hld ⟨_, rfl⟩⟩
              case measure => simp [intOf]; omega
            · have HE2 : Hid (viol db (m1, fr, (tn : Int)) = [(i : Int), (k : Int)]) := Lib.hid (by rw [hE.out]; exact HYes.out (by simp [hxy]))
              have hd : (xv != yv) = true := by simp [hxy]
              have HXY := Lib.hid hxy
              clear hE HYes HNo hxy
              go_wp2_with fail
              go_quiet ((go_at_call 30; exact quiet_drew (HEQ.out _)))
              go_wp2_with fail
              go_ret
              refine ⟨_, rfl, by rw [HE2.out]; exact (own_two ⟨by omega, by omega⟩ ⟨by omega, by omega⟩).mono (by simp; omega) (by simp), ?_⟩
              exact (onD hb9 ⟨_, rfl⟩).alloc (by simp; omega) _
        · have HE2 : Hid (viol db (m1, fr, (tn : Int)) = violOut fr tn rows (k + 1) (rows.drop (k + 1))) := Lib.hid (by rw [hE.out, violIn_end (by omega), HR2.out])
          clear hE
          go_wp2_with fail
          go_roundw
          case rel => exact ⟨k + 1, by omega, by go_num, HE2.out, hlc⟩
          case measure => simp [intOf]; omega
    · have HE2 : Hid (viol db (m1, fr, (tn : Int)) = []) := Lib.hid (by rw [hE.out, violOut_end (by rw [HL.out]; omega)])
      clear hE
      go_wp2_with fail
      go_ret
      exact ⟨_, rfl, by rw [HE2.out]; exact own_nil_S.mono (Nat.le_refl _) (by omega), hb6⟩

end Go.Proofs.YtpgfkjcekhifiaaGreatDoor

namespace Go.Proofs.YtpgfkjcekhifiaaGreatDoor

open Go.RowKit

set_option linter.unusedVariables false

set_option linter.unusedSimpArgs false

set_option synthInstance.maxSize 2000

set_option synthInstance.maxHeartbeats 400000

theorem own_none {W : World} : Own oI W.heap.size (W.heap.size + 1) (W.alloc (.cells #[] 3)) [.slice (some ⟨W.heap.size, 0, none⟩) 0 0] [] := by
  have h := (own_empty (W := W) (Nat.le_refl _)).own
  simpa using h

theorem own_none_g {W : World} {g lo : Nat} (hg : W.heap.size = g) (hl : lo ≤ g) : Own oI lo (W.alloc (.cells #[] 3)).heap.size (W.alloc (.cells #[] 3)) [.slice (some ⟨g, 0, none⟩) 0 0] [] := by
  subst hg
  exact own_none.mono hl (by simp)

set_option maxRecDepth 100000 in
set_option maxHeartbeats 4000000 in
theorem viol_spec (cs ds : List Value) (db : DDb) (x : DDp) (w : World) (h : rDb.rep w cs db) (h' : rDp.rep w ds x) :
    Calls Tryz.prog 8 #[.agg cs.toArray, .agg ds.toArray] w fun e w' => ∃ u, e = .returned u ∧ Own oI w.heap.size w'.heap.size w' [u] (viol db x) ∧ Below w.heap.size w w' := by
  obtain ⟨ub, un, uc, rfl, g1⟩ := rDb_open h
  obtain ⟨fb, fn, fc, rfl, hs0, gf, hi2⟩ := rDp_open h'
  have hcv := fun W (hW : Below w.heap.size w W) => validDp_spec _ _ db x W (rDb.mono h hW) (rDp.mono h' hW)
  obtain ⟨m1, fr, to⟩ := x
  simp only at hs0 gf hi2 hcv
  have i0 := rI_ints gf
  have hck := fun W (hW : Below w.heap.size w W) => lookS_any [.slice ub un uc] db m1 W (rDb.mono h hW)
  have HCV := Lib.hid hcv
  have HCK := Lib.hid hck
  have hfl := i0.len
  clear hcv hck h h' g1 gf hs0
  have hb0 : Below w.heap.size w w := Below.refl _ _
  go_enter Tryz.func8, Tryz.ntmps8
  obtain ⟨w1, hw1⟩ : ∃ W, W = w.alloc (.cells #[.slice ub un uc] 26) := ⟨_, rfl⟩
  have z1 : Below w.heap.size w w1 := by rw [hw1]; exact (Below.refl _ _).alloc (Nat.le_refl _) _
  have s1 : w1.heap.size = w.heap.size + 1 := by rw [hw1]; simp
  have hb1 := on hb0 z1
  have b_0 : w1.cell? ⟨w.heap.size, 0, none⟩ = some (.slice ub un uc) := by rw [hw1]; exact box_cell (Below.refl _ _) rfl
  have raw1_b_0 := b_0
  rw [hw1] at raw1_b_0
  obtain ⟨w2, hw2⟩ : ∃ W, W = w1.alloc (.cells #[.string m1, .slice fb fn fc, .int .i64 to] 29) := ⟨_, rfl⟩
  have z2 : Below w1.heap.size w1 w2 := by rw [hw2]; exact (Below.refl _ _).alloc (Nat.le_refl _) _
  have s2 : w2.heap.size = w1.heap.size + 1 := by rw [hw2]; simp
  have hb2 := on hb1 z2
  replace b_0 := bxc z2 b_0
  have e2 : w1.heap.size = w.heap.size + 1 := by omega
  have x_0 : w2.cell? ⟨w1.heap.size, 0, none⟩ = some (.string m1) := by rw [hw2]; exact box_cell (Below.refl _ _) rfl
  have x_1 : w2.cell? ⟨w1.heap.size, 1, none⟩ = some (.slice fb fn fc) := by rw [hw2]; exact box_cell (Below.refl _ _) rfl
  have x_2 : w2.cell? ⟨w1.heap.size, 2, none⟩ = some (.int .i64 to) := by rw [hw2]; exact box_cell (Below.refl _ _) rfl
  rw [e2] at x_0 x_1 x_2
  have raw2_b_0 := b_0
  have raw2_x_0 := x_0
  have raw2_x_1 := x_1
  have raw2_x_2 := x_2
  rw [hw2, hw1] at raw2_b_0 raw2_x_0 raw2_x_1 raw2_x_2
  go_wp2_with fail
  rw [← hw1]
  rw [← hw2]
  clear hw2 hw1
  clear raw1_b_0 raw2_b_0 raw2_x_0 raw2_x_1 raw2_x_2
  refine (HCK.out _ hb2).mono ?_
  rintro e w10 ⟨vb, vn, vc, rfl, ho, z10⟩
  have s3 := z10.size
  have hb3 := on hb2 z10
  replace b_0 := bxc z10 b_0
  replace x_0 := bxc z10 x_0
  replace x_1 := bxc z10 x_1
  replace x_2 := bxc z10 x_2
  by_cases hv : validDp db (m1, fr, to) = true
  case neg =>
    replace hv : validDp db (m1, fr, to) = false := by simpa using hv
    have HE : Hid (viol db (m1, fr, to) = []) := Lib.hid (by simp [viol, hv])
    rw [hv] at HCV
    obtain ⟨t, ht⟩ : ∃ t, lookT (look db m1) = t := ⟨_, rfl⟩
    rw [ht] at ho ⊢
    obtain ⟨ns, A, rows⟩ := t
    simp only at ho
    obtain ⟨vb2, vn2, vc2, he9, hs9, hi9, gr⟩ := rT_open (ho.rd reads_T)
    simp at he9 hs9 hi9 gr
    obtain ⟨rfl, rfl, rfl⟩ := he9
    have hn := (rS_sl gr).small
    clear hv ht ho gr hs9 hi9 HCK
    obtain ⟨w4, hw4⟩ : ∃ W, W = w10.alloc (.cells #[.string ns, .int .i64 A, .slice vb vn vc] 41) := ⟨_, rfl⟩
    have z4 : Below w10.heap.size w10 w4 := by rw [hw4]; exact (Below.refl _ _).alloc (Nat.le_refl _) _
    have s4 : w4.heap.size = w10.heap.size + 1 := by rw [hw4]; simp
    have hb4 := on hb3 z4
    have old4_b_0 := b_0
    have old4_x_0 := x_0
    have old4_x_1 := x_1
    have old4_x_2 := x_2
    replace b_0 := bxc z4 b_0
    replace x_0 := bxc z4 x_0
    replace x_1 := bxc z4 x_1
    replace x_2 := bxc z4 x_2
    have t_0 : w4.cell? ⟨w10.heap.size, 0, none⟩ = some (.string ns) := by rw [hw4]; exact box_cell (Below.refl _ _) rfl
    have t_1 : w4.cell? ⟨w10.heap.size, 1, none⟩ = some (.int .i64 A) := by rw [hw4]; exact box_cell (Below.refl _ _) rfl
    have t_2 : w4.cell? ⟨w10.heap.size, 2, none⟩ = some (.slice vb vn vc) := by rw [hw4]; exact box_cell (Below.refl _ _) rfl
    have raw4_b_0 := b_0
    have raw4_x_0 := x_0
    have raw4_x_1 := x_1
    have raw4_x_2 := x_2
    have raw4_t_0 := t_0
    have raw4_t_1 := t_1
    have raw4_t_2 := t_2
    rw [hw4] at raw4_b_0 raw4_x_0 raw4_x_1 raw4_x_2 raw4_t_0 raw4_t_1 raw4_t_2
    go_wp2_with fail
    rw [← hw4]
    clear hw4
    clear old4_b_0 old4_x_0 old4_x_1 old4_x_2 raw4_b_0 raw4_x_0 raw4_x_1 raw4_x_2 raw4_t_0 raw4_t_1 raw4_t_2
    go_loopw [7] (fun k wr => k = .int .i64 0 ∧ w4 = wr) (fun k _ => 0)
    case atStart => exact ⟨rfl, rfl⟩
    case round =>
      obtain ⟨rfl, rfl⟩ := hrel
      by_cases hvn : vn = 0
      · subst hvn
        go_wp2_with fail
        go_ret
        refine ⟨_, rfl, ?_, (hb4).alloc (by omega) _⟩
        rw [HE.out]
        exact own_none_g (by omega) (by omega)
      · go_wp2_with fail
        refine (HCV.out _ hb4).mono ?_
        rintro e w11 ⟨rfl, z11⟩
        have s5 := z11.size
        have hb5 := on hb4 z11
        replace b_0 := bxc z11 b_0
        replace x_0 := bxc z11 x_0
        replace x_1 := bxc z11 x_1
        replace x_2 := bxc z11 x_2
        replace t_0 := bxc z11 t_0
        replace t_1 := bxc z11 t_1
        replace t_2 := bxc z11 t_2
        go_wp2_with fail
        go_ret
        refine ⟨_, rfl, ?_, (hb5).alloc (by omega) _⟩
        rw [HE.out]
        exact own_none_g (by omega) (by omega)
  obtain ⟨hsm, hf3, tn, rfl, htn⟩ := validDp_facts hv
  have hok := look_okT hsm
  have HE : Hid (viol db (m1, fr, (tn : Int)) = violOut fr tn (lookT (look db m1)).2.2 0 ((lookT (look db m1)).2.2.drop 0)) := Lib.hid (by simp [viol, hv])
  rw [hv] at HCV
  clear hv
  obtain ⟨t, ht⟩ : ∃ t, lookT (look db m1) = t := ⟨_, rfl⟩
  rw [ht] at hok htn HE ho ⊢
  rw [hsm]
  obtain ⟨ns, A, rows⟩ := t
  simp only at htn HE ho
  have hA := hok.ar
  have hrow := hok.row
  simp only at hA hrow
  obtain ⟨vb2, vn2, vc2, he9, hs9, hi9, gr⟩ := rT_open (ho.rd reads_T)
  simp at he9 hs9 hi9 gr
  obtain ⟨rfl, rfl, rfl⟩ := he9
  have t1 := rS_sl gr
  obtain ⟨hcap, hcap2⟩ := rS_cap gr
  have hl := t1.len
  have hn := t1.small
  have HL := Lib.hid hl
  have HR := Lib.hid hrow
  clear hok hrow hsm ht ho gr hs9 hi9 HCK hl
  have hT : Below w10.heap.size w10 w10 := Below.refl _ _
  obtain ⟨w6, hw6⟩ : ∃ W, W = w10.alloc (.cells #[.string ns, .int .i64 A, .slice vb vn vc] 41) := ⟨_, rfl⟩
  have z6 : Below w10.heap.size w10 w6 := by rw [hw6]; exact (Below.refl _ _).alloc (Nat.le_refl _) _
  have s6 : w6.heap.size = w10.heap.size + 1 := by rw [hw6]; simp
  have hb6 := on hb3 z6
  have old6_b_0 := b_0
  have old6_x_0 := x_0
  have old6_x_1 := x_1
  have old6_x_2 := x_2
  replace b_0 := bxc z6 b_0
  replace x_0 := bxc z6 x_0
  replace x_1 := bxc z6 x_1
  replace x_2 := bxc z6 x_2
  replace hT := on hT z6
  have t_0 : w6.cell? ⟨w10.heap.size, 0, none⟩ = some (.string ns) := by rw [hw6]; exact box_cell (Below.refl _ _) rfl
  have t_1 : w6.cell? ⟨w10.heap.size, 1, none⟩ = some (.int .i64 A) := by rw [hw6]; exact box_cell (Below.refl _ _) rfl
  have t_2 : w6.cell? ⟨w10.heap.size, 2, none⟩ = some (.slice vb vn vc) := by rw [hw6]; exact box_cell (Below.refl _ _) rfl
  have raw6_b_0 := b_0
  have raw6_x_0 := x_0
  have raw6_x_1 := x_1
  have raw6_x_2 := x_2
  have raw6_t_0 := t_0
  have raw6_t_1 := t_1
  have raw6_t_2 := t_2
  rw [hw6] at raw6_b_0 raw6_x_0 raw6_x_1 raw6_x_2 raw6_t_0 raw6_t_1 raw6_t_2
  go_wp2_with fail
  rw [← hw6]
  clear hw6
  clear old6_b_0 old6_x_0 old6_x_1 old6_x_2 raw6_b_0 raw6_x_0 raw6_x_1 raw6_x_2 raw6_t_0 raw6_t_1 raw6_t_2
  go_loopw [7] (fun k wr => ∃ j : Nat, j ≤ vn ∧ k = .int .i64 j ∧ Hid (viol db (m1, fr, (tn : Int)) = violOut fr tn rows j (rows.drop j)) ∧ Below w6.heap.size w6 wr) (fun k _ => vn - (intOf k).toNat)
  case atStart => exact ⟨0, Nat.zero_le _, rfl, HE.out, Below.refl _ _⟩
  case round =>
    obtain ⟨k, hk, rfl, hE, hdr⟩ := hrel
    obtain ⟨wo, rfl⟩ : ∃ W, W = wr := ⟨_, rfl⟩
    have hlc := hdr
    clear HE
    have s7 := hdr.size
    have hb7 := on hb6 hdr
    replace b_0 := bxc hdr b_0
    replace x_0 := bxc hdr x_0
    replace x_1 := bxc hdr x_1
    replace x_2 := bxc hdr x_2
    replace hT := on hT hdr
    replace t_0 := bxc hdr t_0
    replace t_1 := bxc hdr t_1
    replace t_2 := bxc hdr t_2
    by_cases hlt : k < vn
    · obtain ⟨b1, o1, yb, yn, yc, y, rfl, hcy, hy, iy, _⟩ := t1.row hlt
      have hyA := (HR.out y (List.mem_of_getElem? hy.out)).1
      have hyl := iy.len
      have hytn : tn < yn := by omega
      have hbt1 : b1 < w10.heap.size := cell_lt hcy
      have y0 : wo.cell? ⟨b1, o1 + k, none⟩ = some (.slice yb yn yc) := (hT.cell (p := ⟨b1, o1 + k, none⟩) (cell_lt hcy)).trans hcy
      have HA := Lib.hid (hE.out.trans (violOut_at hy.out))
      obtain ⟨R, hR⟩ : ∃ R, R = violOut fr tn rows (k + 1) (rows.drop (k + 1)) := ⟨_, rfl⟩
      rw [← hR] at HA
      have HR2 := Lib.hid hR
      obtain ⟨yb1, yo1, yv, hye, hcyv, hyv, _, _⟩ := iy.get hytn
      subst hye
      have hbt2 : yb1 < w10.heap.size := cell_lt hcyv
      have yv0 : wo.cell? ⟨yb1, yo1 + tn, none⟩ = some (.int .i64 yv) := (hT.cell (p := ⟨yb1, yo1 + tn, none⟩) (cell_lt hcyv)).trans hcyv
      clear hcyv hcy hE hR hyA hyl
      go_wp2_with fail
      refine (HCV.out _ hb7).mono ?_
      rintro e w11 ⟨rfl, z11⟩
      have s8 := z11.size
      have hb8 := on hb7 z11
      replace b_0 := bxc z11 b_0
      replace x_0 := bxc z11 x_0
      replace x_1 := bxc z11 x_1
      replace x_2 := bxc z11 x_2
      replace hT := on hT z11
      replace t_0 := bxc z11 t_0
      replace t_1 := bxc z11 t_1
      replace t_2 := bxc z11 t_2
      replace hlc := on hlc z11
      replace y0 := bxc z11 y0
      replace yv0 := bxc z11 yv0
      have iyc := iy.below hT
      go_wp2_with fail
      first | (go_region_held3 (fun W => W.cell? ⟨w10.heap.size, 2, none⟩ = some (.slice (some ⟨b1, o1, none⟩) vn vc) ∧ W.cell? ⟨b1, o1 + k, none⟩ = some (.slice (some ⟨yb1, yo1, none⟩) yn yc) ∧ W.cell? ⟨w.heap.size + 1, 1, none⟩ = some (.slice fb fn fc)) (first | exact ⟨t_2, y0, x_1⟩ | assumption) (first | (go_at_call 32; (with_reducible refine (sel_spec _ _ _ _ yc fc y fr _ (iyc.below (Below.refl _ _).drew) (i0.below hb8.drew) (by omega)).mono ?_); rintro e w9 ⟨p1, p2, p3, rfl, o1', z9⟩; replace z9 : Below w11.heap.size w11 w9 := on (Below.refl _ _).drew z9; have sz9 := z9.size; have hS9 := (⟨(z9.cell (p := ⟨w10.heap.size, 2, none⟩) (by simp only []; omega)).trans t_2, (z9.cell (p := ⟨b1, o1 + k, none⟩) (by simp only []; omega)).trans y0, (z9.cell (p := ⟨w.heap.size + 1, 1, none⟩) (by simp only []; omega)).trans x_1⟩ : (fun W => W.cell? ⟨w10.heap.size, 2, none⟩ = some (.slice (some ⟨b1, o1, none⟩) vn vc) ∧ W.cell? ⟨b1, o1 + k, none⟩ = some (.slice (some ⟨yb1, yo1, none⟩) yn yc) ∧ W.cell? ⟨w.heap.size + 1, 1, none⟩ = some (.slice fb fn fc)) w9); have hx9 := on hb8 z9))) | fail "held"
      replace z9 : Below w11.heap.size w11 w9 := z9
      clear hS9 hx9
      have s10 := z9.size
      have hb10 := on hb8 z9
      replace b_0 := bxc z9 b_0
      replace x_0 := bxc z9 x_0
      replace x_1 := bxc z9 x_1
      replace x_2 := bxc z9 x_2
      replace hT := on hT z9
      replace t_0 := bxc z9 t_0
      replace t_1 := bxc z9 t_1
      replace t_2 := bxc z9 t_2
      replace hlc := on hlc z9
      replace y0 := bxc z9 y0
      replace yv0 := bxc z9 yv0
      clear iyc
      go_wp2_with fail
      go_loopw [10] (fun i wr => ∃ j : Nat, j ≤ k ∧ i = .int .i64 j ∧ Hid (viol db (m1, fr, (tn : Int)) = orElse (violIn fr tn y k j ((rows.take k).drop j)) R) ∧ Below w9.heap.size w9 wr) (fun i _ => k - (intOf i).toNat)
      case atStart => exact ⟨0, Nat.zero_le _, rfl, HA.out, Below.refl _ _⟩
      case round =>
        obtain ⟨i, hi, rfl, hE, hdr⟩ := hrel
        have hld := hdr
        clear HA
        have s11 := hdr.size
        have hb11 := on hb10 hdr
        replace b_0 := bxc hdr b_0
        replace x_0 := bxc hdr x_0
        replace x_1 := bxc hdr x_1
        replace x_2 := bxc hdr x_2
        replace hT := on hT hdr
        replace t_0 := bxc hdr t_0
        replace t_1 := bxc hdr t_1
        replace t_2 := bxc hdr t_2
        replace hlc := on hlc hdr
        replace y0 := bxc hdr y0
        replace yv0 := bxc hdr yv0
        replace o1' := o1'.below hdr (by omega)
        by_cases hlt2 : i < k
        · obtain ⟨b9, o9, xb, xn, xc, x, hb9, hcx, hx, ix, _⟩ := t1.row (show i < vn by omega)
          simp at hb9
          obtain ⟨rfl, rfl⟩ := hb9
          have hxA := (HR.out x (List.mem_of_getElem? hx.out)).1
          have hxl := ix.len
          have hxtn : tn < xn := by omega
          have x0 : wr.cell? ⟨b1, o1 + i, none⟩ = some (.slice xb xn xc) := (hT.cell (p := ⟨b1, o1 + i, none⟩) (cell_lt hcx)).trans hcx
          obtain ⟨xb1, xo1, xv, hxe, hcxv, hxv, _, _⟩ := ix.get hxtn
          subst hxe
          have hbt3 : xb1 < w10.heap.size := cell_lt hcxv
          have xv0 : wr.cell? ⟨xb1, xo1 + tn, none⟩ = some (.int .i64 xv) := (hT.cell (p := ⟨xb1, xo1 + tn, none⟩) (cell_lt hcxv)).trans hcxv
          have ixc := ix.below hT
          have hiv : (i : Int) < (vn : Int) := by omega
          have hvB : violB fr tn x y = (decide (sel x fr = sel y fr) && (xv != yv)) := by rw [violB, hxv.out, hyv.out]
          have HYes := Lib.hid (violIn_yes (fr := fr) (to := tn) (y := y) hlt2 hx.out · R)
          have HNo := Lib.hid (violIn_no (fr := fr) (to := tn) (y := y) hlt2 hx.out · R)
          rw [hvB] at HYes HNo
          clear hvB hcx hcxv hxA hxl
          go_wp2_with fail
          first | (go_region_held3 (fun W => W.cell? ⟨w10.heap.size, 2, none⟩ = some (.slice (some ⟨b1, o1, none⟩) vn vc) ∧ W.cell? ⟨b1, o1 + i, none⟩ = some (.slice (some ⟨xb1, xo1, none⟩) xn xc) ∧ W.cell? ⟨w.heap.size + 1, 1, none⟩ = some (.slice fb fn fc)) (first | exact ⟨t_2, x0, x_1⟩ | assumption) (first | (go_at_call 32; (with_reducible refine (sel_spec _ _ _ _ xc fc x fr _ (ixc.below (Below.refl _ _).drew) (i0.below hb11.drew) (by omega)).mono ?_); rintro e w12 ⟨q1, q2, q3, rfl, o2', z12⟩; replace z12 : Below wr.heap.size wr w12 := on (Below.refl _ _).drew z12; have sz12 := z12.size; have hS12 := (⟨(z12.cell (p := ⟨w10.heap.size, 2, none⟩) (by simp only []; omega)).trans t_2, (z12.cell (p := ⟨b1, o1 + i, none⟩) (by simp only []; omega)).trans x0, (z12.cell (p := ⟨w.heap.size + 1, 1, none⟩) (by simp only []; omega)).trans x_1⟩ : (fun W => W.cell? ⟨w10.heap.size, 2, none⟩ = some (.slice (some ⟨b1, o1, none⟩) vn vc) ∧ W.cell? ⟨b1, o1 + i, none⟩ = some (.slice (some ⟨xb1, xo1, none⟩) xn xc) ∧ W.cell? ⟨w.heap.size + 1, 1, none⟩ = some (.slice fb fn fc)) w12); have hx12 := on hb11 z12))) | fail "held"
          replace z12 : Below wr.heap.size wr w12 := z12
          clear hS12 hx12
          have s13 := z12.size
          have hb13 := on hb11 z12
          replace b_0 := bxc z12 b_0
          replace x_0 := bxc z12 x_0
          replace x_1 := bxc z12 x_1
          replace x_2 := bxc z12 x_2
          replace hT := on hT z12
          replace t_0 := bxc z12 t_0
          replace t_1 := bxc z12 t_1
          replace t_2 := bxc z12 t_2
          replace hlc := on hlc z12
          replace y0 := bxc z12 y0
          replace yv0 := bxc z12 yv0
          replace o1' := o1'.below z12 (by omega)
          replace hld := on hld z12
          replace x0 := bxc z12 x0
          replace xv0 := bxc z12 xv0
          clear ixc
          have heq := fun q => cmp_spec q1 p1 q2 p2 q3 p3 (sel x fr) (sel y fr) (w12.drewN q) ((rI_ints (o2'.rd reads_I)).drewN q) ((rI_ints (o1'.rd reads_I)).drewN q)
          have hz := cmpRows_zero (sel x fr) (sel y fr)
          obtain ⟨g, hg⟩ : ∃ g, cmpRows (sel x fr) (sel y fr) = g := ⟨_, rfl⟩
          rw [hg] at hz
          rw [show decide (sel x fr = sel y fr) = decide (g = 0) from by rw [decide_eq_decide]; exact hz.symm] at HYes HNo
          simp only [hg] at heq
          have HEQ := Lib.hid heq
          clear heq hg hz
          by_cases hg0 : g = 0
          case neg =>
            have HE2 : Hid (viol db (m1, fr, (tn : Int)) = orElse (violIn fr tn y k (i + 1) ((rows.take k).drop (i + 1))) R) := Lib.hid (by rw [hE.out]; exact HNo.out (by simp [hg0]))
            have hd0 : (g == 0) = false := by simp [hg0]
            clear hE HYes HNo hg0
            go_wp2_with fail
            go_quiet ((go_at_call 33; exact quiet_drew (HEQ.out _)))
            go_wp2_with fail
            go_roundw
            case rel => exact ⟨i + 1, by omega, by go_num, HE2.out, onD hld ⟨_, rfl⟩⟩
            case measure => simp [intOf]; omega
          subst hg0
          by_cases hxy : xv = yv
          · have HE2 : Hid (viol db (m1, fr, (tn : Int)) = orElse (violIn fr tn y k (i + 1) ((rows.take k).drop (i + 1))) R) := Lib.hid (by rw [hE.out]; exact HNo.out (by simp [hxy]))
            have hd : (xv != yv) = false := by simp [hxy]
            have HXY := Lib.hid hxy
            clear hE HYes HNo hxy
            go_wp2_with fail
            go_quiet ((go_at_call 33; exact quiet_drew (HEQ.out _)))
            go_wp2_with fail
            go_roundw
            case rel => exact ⟨i + 1, by omega, by go_num, HE2.out, onD hld ⟨_, rfl⟩⟩
            case measure => simp [intOf]; omega
          · have HE2 : Hid (viol db (m1, fr, (tn : Int)) = [(i : Int), (k : Int)]) := Lib.hid (by rw [hE.out]; exact HYes.out (by simp [hxy]))
            have hd : (xv != yv) = true := by simp [hxy]
            have HXY := Lib.hid hxy
            clear hE HYes HNo hxy
            go_wp2_with fail
            go_quiet ((go_at_call 33; exact quiet_drew (HEQ.out _)))
            go_wp2_with fail
            go_ret
            refine ⟨_, rfl, by rw [HE2.out]; exact (own_two ⟨by omega, by omega⟩ ⟨by omega, by omega⟩).mono (by simp; omega) (by simp), ?_⟩
            exact (onD hb13 ⟨_, rfl⟩).alloc (by simp; omega) _
        · have HE2 : Hid (viol db (m1, fr, (tn : Int)) = violOut fr tn rows (k + 1) (rows.drop (k + 1))) := Lib.hid (by rw [hE.out, violIn_end (by omega), HR2.out])
          clear hE
          go_wp2_with fail
          go_roundw
          case rel => exact ⟨k + 1, by omega, by go_num, HE2.out, hlc⟩
          case measure => simp [intOf]; omega
    · have HE2 : Hid (viol db (m1, fr, (tn : Int)) = []) := Lib.hid (by rw [hE.out, violOut_end (by rw [HL.out]; omega)])
      clear hE
      go_wp2_with fail
      go_ret
      refine ⟨_, rfl, ?_, (hb7).alloc (by omega) _⟩
      rw [HE2.out]
      exact own_none_g (by omega) (by omega)

def holdsDp (db : DDb) (f : DDp) : Bool := validDp db f && decide ((viol db f).length = 0)

set_option maxHeartbeats 1000000 in
theorem holdsDp_impl (cs ds : List Value) (db : DDb) (x : DDp) (w : World) (h : rDb.rep w cs db) (h' : rDp.rep w ds x) :
    Calls Tryz.prog 9 #[.agg cs.toArray, .agg ds.toArray] w fun e w' => e = .returned (.bool (holdsDp db x)) ∧ Below w.heap.size w w' := by
  obtain ⟨ub, un, uc, rfl⟩ := rDb_form h
  obtain ⟨fb, fn, fc, rfl⟩ := rDp_form h'
  have HCV := Lib.hid (fun W (hW : Below w.heap.size w W) => validDp_impl _ _ db x W (rDb.mono h hW) (rDp.mono h' hW))
  have HCK := Lib.hid (fun W (hW : Below w.heap.size w W) => viol_impl _ _ db x W (rDb.mono h hW) (rDp.mono h' hW))
  obtain ⟨m1, fr, to⟩ := x
  have HV : Hid (holdsDp db (m1, fr, to) = (validDp db (m1, fr, to) && decide ((viol db (m1, fr, to)).length = 0))) := rfl
  obtain ⟨p, hp⟩ : ∃ p, validDp db (m1, fr, to) = p := ⟨_, rfl⟩
  obtain ⟨l, hl⟩ : ∃ l, viol db (m1, fr, to) = l := ⟨_, rfl⟩
  rw [hp, hl] at HV
  rw [hp] at HCV
  simp only [hl] at HCK
  clear hp hl h h'
  have hb0 : Below w.heap.size w w := Below.refl _ _
  go_enter Tryz.func9, Tryz.ntmps9
  obtain ⟨w1, hw1⟩ : ∃ W, W = w.alloc (.cells #[.slice ub un uc] 26) := ⟨_, rfl⟩
  have z1 : Below w.heap.size w w1 := by rw [hw1]; exact (Below.refl _ _).alloc (Nat.le_refl _) _
  have s1 : w1.heap.size = w.heap.size + 1 := by rw [hw1]; simp
  have hb1 := on hb0 z1
  have b_0 : w1.cell? ⟨w.heap.size, 0, none⟩ = some (.slice ub un uc) := by rw [hw1]; exact box_cell (Below.refl _ _) rfl
  have raw1_b_0 := b_0
  rw [hw1] at raw1_b_0
  obtain ⟨w2, hw2⟩ : ∃ W, W = w1.alloc (.cells #[.string m1, .slice fb fn fc, .int .i64 to] 29) := ⟨_, rfl⟩
  have z2 : Below w1.heap.size w1 w2 := by rw [hw2]; exact (Below.refl _ _).alloc (Nat.le_refl _) _
  have s2 : w2.heap.size = w1.heap.size + 1 := by rw [hw2]; simp
  have hb2 := on hb1 z2
  replace b_0 := bxc z2 b_0
  have e2 : w1.heap.size = w.heap.size + 1 := by omega
  have x_0 : w2.cell? ⟨w1.heap.size, 0, none⟩ = some (.string m1) := by rw [hw2]; exact box_cell (Below.refl _ _) rfl
  have x_1 : w2.cell? ⟨w1.heap.size, 1, none⟩ = some (.slice fb fn fc) := by rw [hw2]; exact box_cell (Below.refl _ _) rfl
  have x_2 : w2.cell? ⟨w1.heap.size, 2, none⟩ = some (.int .i64 to) := by rw [hw2]; exact box_cell (Below.refl _ _) rfl
  rw [e2] at x_0 x_1 x_2
  have raw2_b_0 := b_0
  have raw2_x_0 := x_0
  have raw2_x_1 := x_1
  have raw2_x_2 := x_2
  rw [hw2, hw1] at raw2_b_0 raw2_x_0 raw2_x_1 raw2_x_2
  go_wp2_with fail
  rw [← hw1]
  rw [← hw2]
  clear hw2 hw1
  clear raw1_b_0 raw2_b_0 raw2_x_0 raw2_x_1 raw2_x_2
  refine (HCV.out _ hb2).mono ?_
  rintro e w9 ⟨rfl, z9⟩
  have s3 := z9.size
  have hb3 := on hb2 z9
  replace b_0 := bxc z9 b_0
  replace x_0 := bxc z9 x_0
  replace x_1 := bxc z9 x_1
  replace x_2 := bxc z9 x_2
  cases p with
  | false =>
    go_wp2_with fail
    go_wp2_with fail
    go_ret
    exact ⟨ret_bool (by rw [HV.out]; rfl), hb3⟩
  | true =>
    go_wp2_with fail
    refine (HCK.out _ hb3).mono ?_
    rintro e w10 ⟨u, rfl, ho, z10⟩
    obtain ⟨vb, vn, vc, rfl⟩ := oI_form1 ho
    have hln := (rI_ints (ho.rd reads_I)).len
    have s4 := z10.size
    have hb4 := on hb3 z10
    replace b_0 := bxc z10 b_0
    replace x_0 := bxc z10 x_0
    replace x_1 := bxc z10 x_1
    replace x_2 := bxc z10 x_2
    clear ho
    by_cases h0 : vn = 0
    · subst h0
      have HE := Lib.hid (show holdsDp db (m1, fr, to) = true by rw [HV.out, hln]; rfl)
      go_wp2_with fail
      go_wp2_with fail
      go_ret
      exact ⟨ret_bool HE.out.symm, hb4⟩
    · have HE := Lib.hid (show holdsDp db (m1, fr, to) = false by rw [HV.out, hln]; simp [h0])
      have hd : ((vn : Int) == 0) = false := by rw [beq_eq_false_iff_ne]; omega
      go_wp2_with fail
      go_wp2_with fail
      go_ret
      exact ⟨ret_bool HE.out.symm, hb4⟩

end Go.Proofs.YtpgfkjcekhifiaaGreatDoor
