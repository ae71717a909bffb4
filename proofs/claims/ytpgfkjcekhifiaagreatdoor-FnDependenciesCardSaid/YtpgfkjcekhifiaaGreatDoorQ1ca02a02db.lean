/- Texts joined for one claim: Draw22, Draw23. -/
import Derived.Test.YtpgfkjcekhifiaaGreatDoorQ1fda2bf30f
import Derived.Test.YtpgfkjcekhifiaaGreatDoorQ66776059ca
import Derived.Test.YtpgfkjcekhifiaaGreatDoorQ172172a568
import Derived.Deep.RegionHeld3

namespace Go.Proofs.YtpgfkjcekhifiaaGreatDoor

open Go.RowKit

set_option linter.unusedVariables false

set_option linter.unusedSimpArgs false

set_option synthInstance.maxSize 2000

set_option synthInstance.maxHeartbeats 400000

def DrawnClo (w w' : World) (e : Ending) : Prop :=
  ∃ (b : Option Addr) (n c : Nat) (ds : List DDp) (nm : ByteArray) (xb : Option Addr) (xn xc : Nat) (xs : List Int), e = .returned (.tuple #[.slice b n c, .string nm, .slice xb xn xc]) ∧ rDl.rep w' [.slice b n c] ds ∧ (ds.length ≤ 3 ∧ SmallDs ds) ∧ rI.rep w' [.slice xb xn xc] xs ∧ Below w.heap.size w w'

set_option maxRecDepth 100000 in
set_option maxHeartbeats 4000000 in
theorem drawClo_any (w : World) (ba : Option Addr) (bn bc : Nat) (hn : bn ≤ 2000000) (h : Bytes w w.heap.size ba bn) :
    Calls Tryz.prog 12 #[.slice ba bn bc] w fun e w' => DrawnClo w w' e := by
  have hb0 : Below w.heap.size w w := Below.refl _ _
  go_enter Tryz.func12, Tryz.ntmps12
  go_wp2_with fail
  refine (l1New_any _ ba bn bc hn h).mono ?_
  rintro e w1 ⟨cb, rfl, HC, z1, hcb1, hcb2⟩
  have s2 := z1.size
  have hb2 := on hb0 z1
  clear h
  go_wp2_with fail
  obtain ⟨lo4, hlo4⟩ : ∃ q, q = w1.heap.size := ⟨_, rfl⟩
  have HC_o := HC
  clear HC
  refine (l12Deps_any _ cb ba bn bc HC_o (by omega)).mono ?_
  rintro e w3 ⟨b, n, c, ds, rfl, ho, hds, HC, z3⟩
  clear HC_o
  have s4 := z3.size
  have hb4 := hb2.trans ((z3.below (by omega)).mono (by omega))
  rw [← hlo4] at ho
  obtain ⟨hi5, hhi5⟩ : ∃ q, q = w3.heap.size := ⟨_, rfl⟩
  rw [← hhi5] at ho
  have hlh : cb + 1 ≤ lo4 := by omega
  have hlh2 : lo4 ≤ hi5 := by omega
  obtain ⟨w5, hw5⟩ : ∃ W, W = w3.alloc (.cells #[.string (ByteArray.mk #[114]), .string (ByteArray.mk #[115]), .string (ByteArray.mk #[117]), .string (ByteArray.mk #[117])] 9) := ⟨_, rfl⟩
  have z5 : Below w3.heap.size w3 w5 := by rw [hw5]; exact (Below.refl _ _).alloc (Nat.le_refl _) _
  have s5 : w5.heap.size = w3.heap.size + 1 := by rw [hw5]; simp
  have hb5 := on hb4 z5
  replace HC := HC.below' z5 (by omega)
  replace ho := ho.below z5 (by omega)
  have P_0 : w5.cell? ⟨w3.heap.size, 0, none⟩ = some (.string (ByteArray.mk #[114])) := by rw [hw5]; exact box_cell (Below.refl _ _) rfl
  have P_1 : w5.cell? ⟨w3.heap.size, 1, none⟩ = some (.string (ByteArray.mk #[115])) := by rw [hw5]; exact box_cell (Below.refl _ _) rfl
  have P_2 : w5.cell? ⟨w3.heap.size, 2, none⟩ = some (.string (ByteArray.mk #[117])) := by rw [hw5]; exact box_cell (Below.refl _ _) rfl
  have P_3 : w5.cell? ⟨w3.heap.size, 3, none⟩ = some (.string (ByteArray.mk #[117])) := by rw [hw5]; exact box_cell (Below.refl _ _) rfl
  have raw5_P_0 := P_0
  have raw5_P_1 := P_1
  have raw5_P_2 := P_2
  have raw5_P_3 := P_3
  rw [hw5] at raw5_P_0 raw5_P_1 raw5_P_2 raw5_P_3
  have hN : ∀ i, i < 4 → ∃ s, s ∈ [ByteArray.mk #[114], ByteArray.mk #[115], ByteArray.mk #[117], ByteArray.mk #[117]] ∧ w5.cell? ⟨w3.heap.size, i, none⟩ = some (.string s) := fun i hi => by
    rcases (by omega : i = 0 ∨ i = 1 ∨ i = 2 ∨ i = 3) with rfl | rfl | rfl | rfl
    · exact ⟨_, by simp, P_0⟩
    · exact ⟨_, by simp, P_1⟩
    · exact ⟨_, by simp, P_2⟩
    · exact ⟨_, by simp, P_3⟩
  clear P_0 P_1 P_2 P_3
  go_wp2_with fail
  rw [← hw5]
  clear hw5
  clear raw5_P_0 raw5_P_1 raw5_P_2 raw5_P_3
  have HC_o := HC
  clear HC
  refine (l1Pick_any _ cb ba bn bc _ 4 4 _ (by omega) (by omega) hN (by omega) HC_o).mono ?_
  rintro e w6 ⟨nm, rfl, hnm, HC, z6⟩
  clear HC_o
  have s7 := Nat.le_of_eq z6.size
  have s7' := Nat.le_of_eq z6.size.symm
  replace z6 := z6.turn
  have hb7 := hb5.trans ((z6.below (by omega)).mono (by omega))
  replace ho := ho.turn z6 (by omega)
  clear hN
  go_wp2_with fail
  have HC_o := HC
  clear HC
  refine (l10Set_any _ cb ba bn bc 3 (by omega) HC_o (by omega)).mono ?_
  rintro e w8 ⟨ub, un, uc, xs, rfl, oS, hxl, HC, z8⟩
  clear HC_o
  have s9 := z8.size
  have hb9 := hb7.trans ((z8.below (by omega)).mono (by omega))
  replace ho := ho.turn z8 (by omega)
  have hrd := ho.rd reads_Dl
  have hrs := oS.rd reads_I
  have HB9 := Lib.hid hb9
  clear oS hnm hxl
  clear ho HC
  go_wp2_with fail
  refine bodyPost_ret (v := .tuple #[.slice b n c, .string nm, .slice ub un uc]) (by simp [results, Tryz.results12, go_sem]) rfl ⟨b, n, c, ds, nm, ub, un, uc, xs, rfl, hrd, hds, hrs, HB9.out⟩

def KS (w : World) (cb : Nat) (ba : Option Addr) (bn bc XB lo4 hi5 : Nat) (lb : Option Addr) (ln lc : Nat) (ds : List DDp) (nm : ByteArray) (A : Int) (tb : Option Addr) (tn tc : Nat) (rows : List (List Int)) (W : World) : Prop :=
  (W.cell? ⟨XB, 0, none⟩ = some (.string nm) ∧ W.cell? ⟨XB, 1, none⟩ = some (.int .i64 A) ∧ W.cell? ⟨XB, 2, none⟩ = some (.slice tb tn tc)) ∧
  (W.frozen? ⟨XB, 0, none⟩ = false ∧ W.frozen? ⟨XB, 1, none⟩ = false ∧ W.frozen? ⟨XB, 2, none⟩ = false) ∧
  (W.cell? ⟨w.heap.size, 0, none⟩ = some (.string (ByteArray.mk #[])) ∧ W.cell? ⟨w.heap.size, 1, none⟩ = some (.int .i64 0) ∧ W.cell? ⟨w.heap.size, 2, none⟩ = some (.slice none 0 0)) ∧
  (W.frozen? ⟨w.heap.size, 0, none⟩ = false ∧ W.frozen? ⟨w.heap.size, 1, none⟩ = false ∧ W.frozen? ⟨w.heap.size, 2, none⟩ = false) ∧
  Own oDl lo4 hi5 W [.slice lb ln lc] ds ∧ (∃ lo hi, Own oT lo hi W [.string nm, .int .i64 A, .slice tb tn tc] (nm, A, rows) ∧ (hi ≤ XB ∨ XB < lo) ∧ cb < lo ∧ hi ≤ W.heap.size) ∧
  (w.heap.size + 1 ≤ cb ∧ cb < lo4 ∧ lo4 ≤ hi5 ∧ hi5 ≤ XB ∧ XB < W.heap.size) ∧ Cur W cb ba bn bc ∧ Below w.heap.size w W

def KeysOut (w w' : World) (e : Ending) : Prop :=
  ∃ (cb : Nat) (lb : Option Addr) (ln lc : Nat) (ds : List DDp) (nm : ByteArray) (A : Int) (tb : Option Addr) (tn tc : Nat) (rows : List (List Int)), e = .returned (.tuple #[.pointer (some ⟨cb, 0, none⟩), .slice lb ln lc, .agg #[.string nm, .int .i64 A, .slice tb tn tc]]) ∧ Own oDl w.heap.size w'.heap.size w' [.slice lb ln lc] ds ∧ (ds.length ≤ 3 ∧ SmallDs ds) ∧ Own oT w.heap.size w'.heap.size w' [.string nm, .int .i64 A, .slice tb tn tc] (nm, A, rows) ∧ Below w.heap.size w w'

section

variable {w W W' : World} {cb bn bc XB lo4 hi5 ln lc tn tc tn' tc' lo hi : Nat} {ba lb tb tb' : Option Addr} {ds : List DDp} {nm nm' : ByteArray} {A A' : Int} {rows rows' : List (List Int)}

theorem KS.turn (h : KS w cb ba bn bc XB lo4 hi5 lb ln lc ds nm A tb tn tc rows W) (z : Turn cb (cb + 1) W W') (hc : Cur W' cb ba bn bc) : KS w cb ba bn bc XB lo4 hi5 lb ln lc ds nm A tb tn tc rows W' := by
  obtain ⟨⟨f0, f1, f2⟩, ⟨g0, g1, g2⟩, ⟨r0, r1, r2⟩, ⟨s0, s1, s2⟩, ho, ⟨lo, hi, ot, h1, h2, h3⟩, hl, _, hb⟩ := h
  have hz := z.size
  exact ⟨⟨tcl z f0, tcl z f1, tcl z f2⟩, ⟨tfr z g0, tfr z g1, tfr z g2⟩, ⟨tcl z r0, tcl z r1, tcl z r2⟩, ⟨tfr z s0, tfr z s1, tfr z s2⟩, ho.turn z (by omega), ⟨lo, hi, ot.turn z (by omega), h1, h2, by omega⟩, by omega, hc, hb.trans ((z.below (by omega)).mono (by omega))⟩

theorem KS.cur (h : KS w cb ba bn bc XB lo4 hi5 lb ln lc ds nm A tb tn tc rows W) : Cur W cb ba bn bc := h.2.2.2.2.2.2.2.1

theorem KS.lims (h : KS w cb ba bn bc XB lo4 hi5 lb ln lc ds nm A tb tn tc rows W) : w.heap.size + 1 ≤ cb ∧ cb < lo4 ∧ lo4 ≤ hi5 ∧ hi5 ≤ XB ∧ XB < W.heap.size := h.2.2.2.2.2.2.1

theorem KS.set (h : KS w cb ba bn bc XB lo4 hi5 lb ln lc ds nm A tb tn tc rows W) (ot : Own oT lo hi W [.string nm', .int .i64 A', .slice tb' tn' tc'] (nm', A', rows')) (hlo : XB < lo) (hhi : hi ≤ W.heap.size) : KS w cb ba bn bc XB lo4 hi5 lb ln lc ds nm' A' tb' tn' tc' rows' (((W.setCell ⟨XB, 0, none⟩ (.string nm')).setCell ⟨XB, 1, none⟩ (.int .i64 A')).setCell ⟨XB, 2, none⟩ (.slice tb' tn' tc')) := by
  obtain ⟨⟨f0, f1, f2⟩, ⟨g0, g1, g2⟩, ⟨r0, r1, r2⟩, ⟨s0, s1, s2⟩, ho, _, hl, hc, hb⟩ := h
  obtain ⟨v0, hv0⟩ : ∃ q, q = W.setCell ⟨XB, 0, none⟩ (.string nm') := ⟨_, rfl⟩
  obtain ⟨v1, hv1⟩ : ∃ q, q = v0.setCell ⟨XB, 1, none⟩ (.int .i64 A') := ⟨_, rfl⟩
  obtain ⟨v2, hv2⟩ : ∃ q, q = v1.setCell ⟨XB, 2, none⟩ (.slice tb' tn' tc') := ⟨_, rfl⟩
  rw [← hv0, ← hv1, ← hv2]
  have zz : Below XB W v2 := by
    rw [hv2, hv1, hv0]
    repeat (refine Below.setCell ?_ (by simp only []; omega) _)
    exact Below.refl _ _
  have sz : v2.heap.size = W.heap.size := by rw [hv2, hv1, hv0]; simp [World.setCell]
  have o2 := own_off (own_off (own_off ot hv0 (by simp only []; omega)) hv1 (by simp only []; omega)) hv2 (by simp only []; omega)
  refine ⟨⟨?_, ?_, ?_⟩, ⟨?_, ?_, ?_⟩, ⟨bcl zz r0, bcl zz r1, bcl zz r2⟩, ⟨bfr zz s0, bfr zz s1, bfr zz s2⟩, ho.below zz (by omega), ⟨lo, hi, o2, by omega, by omega, by omega⟩, by omega, hc.below' zz (by omega), hb.trans (zz.mono (by omega))⟩
  · rw [hv2, hv1, hv0]; simp [go_sem, f0, f1, f2]
  · rw [hv2, hv1, hv0]; simp [go_sem, f0, f1, f2]
  · rw [hv2, hv1, hv0]; simp [go_sem, f0, f1, f2]
  · rw [hv2, hv1, hv0]; simp [go_sem, g0, g1, g2]
  · rw [hv2, hv1, hv0]; simp [go_sem, g0, g1, g2]
  · rw [hv2, hv1, hv0]; simp [go_sem, g0, g1, g2]

theorem KS.fin (h : KS w cb ba bn bc XB lo4 hi5 lb ln lc ds nm A tb tn tc rows W) (hds : ds.length ≤ 3 ∧ SmallDs ds) : KeysOut w (((W.setCell ⟨w.heap.size, 0, none⟩ (.string nm)).setCell ⟨w.heap.size, 1, none⟩ (.int .i64 A)).setCell ⟨w.heap.size, 2, none⟩ (.slice tb tn tc)) (.returned (.tuple #[.pointer (some ⟨cb, 0, none⟩), .slice lb ln lc, .agg #[.string nm, .int .i64 A, .slice tb tn tc]])) := by
  obtain ⟨_, _, _, _, ho, ⟨lo, hi, ot, h1, h2, h3⟩, hl, _, hb⟩ := h
  obtain ⟨v0, hv0⟩ : ∃ q, q = W.setCell ⟨w.heap.size, 0, none⟩ (.string nm) := ⟨_, rfl⟩
  obtain ⟨v1, hv1⟩ : ∃ q, q = v0.setCell ⟨w.heap.size, 1, none⟩ (.int .i64 A) := ⟨_, rfl⟩
  obtain ⟨v2, hv2⟩ : ∃ q, q = v1.setCell ⟨w.heap.size, 2, none⟩ (.slice tb tn tc) := ⟨_, rfl⟩
  rw [← hv0, ← hv1, ← hv2]
  have zz : Below w.heap.size W v2 := by
    rw [hv2, hv1, hv0]
    repeat (refine Below.setCell ?_ (by simp only []; omega) _)
    exact Below.refl _ _
  have sz : v2.heap.size = W.heap.size := by rw [hv2, hv1, hv0]; simp [World.setCell]
  have o2 := own_off (own_off (own_off ot hv0 (by simp only []; omega)) hv1 (by simp only []; omega)) hv2 (by simp only []; omega)
  have o1 := own_off (own_off (own_off ho hv0 (by simp only []; omega)) hv1 (by simp only []; omega)) hv2 (by simp only []; omega)
  exact ⟨cb, lb, ln, lc, ds, nm, A, tb, tn, tc, rows, rfl, o1.mono (by omega) (by omega), hds, o2.mono (by omega) (by omega), hb.trans zz⟩

end

end Go.Proofs.YtpgfkjcekhifiaaGreatDoor

namespace Go.Proofs.YtpgfkjcekhifiaaGreatDoor

open Go.RowKit

set_option linter.unusedVariables false

set_option linter.unusedSimpArgs false

set_option synthInstance.maxSize 2000

set_option synthInstance.maxHeartbeats 400000

set_option maxRecDepth 100000 in
set_option maxHeartbeats 8000000 in
theorem l12Keys_any (w : World) (ba : Option Addr) (bn bc : Nat) (hn : bn ≤ 2000000) (h : Bytes w w.heap.size ba bn) :
    Calls Tryz.prog 48 #[.slice ba bn bc] w fun e w' => KeysOut w w' e := by
  have hb0 : Below w.heap.size w w := Below.refl _ _
  go_enter Tryz.func48, Tryz.ntmps48
  obtain ⟨w1, hw1⟩ : ∃ W, W = w.alloc (.cells #[.string (ByteArray.mk #[]), .int .i64 0, .slice none 0 0] 41) := ⟨_, rfl⟩
  have z1 : Below w.heap.size w w1 := by rw [hw1]; exact (Below.refl _ _).alloc (Nat.le_refl _) _
  have s1 : w1.heap.size = w.heap.size + 1 := by rw [hw1]; simp
  have hb1 := on hb0 z1
  have R_0 : w1.cell? ⟨w.heap.size, 0, none⟩ = some (.string (ByteArray.mk #[])) := by rw [hw1]; exact box_cell (Below.refl _ _) rfl
  have R_1 : w1.cell? ⟨w.heap.size, 1, none⟩ = some (.int .i64 0) := by rw [hw1]; exact box_cell (Below.refl _ _) rfl
  have R_2 : w1.cell? ⟨w.heap.size, 2, none⟩ = some (.slice none 0 0) := by rw [hw1]; exact box_cell (Below.refl _ _) rfl
  have R_f0 : w1.frozen? ⟨w.heap.size, 0, none⟩ = false := by rw [hw1]; exact box_frozen (Below.refl _ _)
  have R_f1 : w1.frozen? ⟨w.heap.size, 1, none⟩ = false := by rw [hw1]; exact box_frozen (Below.refl _ _)
  have R_f2 : w1.frozen? ⟨w.heap.size, 2, none⟩ = false := by rw [hw1]; exact box_frozen (Below.refl _ _)
  have raw1_R_0 := R_0
  have raw1_R_1 := R_1
  have raw1_R_2 := R_2
  have raw1_R_f0 := R_f0
  have raw1_R_f1 := R_f1
  have raw1_R_f2 := R_f2
  rw [hw1] at raw1_R_0 raw1_R_1 raw1_R_2 raw1_R_f0 raw1_R_f1 raw1_R_f2
  have HBY := Lib.hid (bytes_at' h hb1)
  clear h
  go_wp2_with fail
  rw [← hw1]
  clear hw1
  clear raw1_R_0 raw1_R_1 raw1_R_2 raw1_R_f0 raw1_R_f1 raw1_R_f2
  refine (l1New_any _ ba bn bc hn HBY.out).mono ?_
  rintro e w2 ⟨cb, rfl, HC, z2, hcb1, hcb2⟩
  have s3 := z2.size
  have hb3 := on hb1 z2
  replace R_0 := bxc z2 R_0
  replace R_1 := bxc z2 R_1
  replace R_2 := bxc z2 R_2
  replace R_f0 := bxf z2 R_f0
  replace R_f1 := bxf z2 R_f1
  replace R_f2 := bxf z2 R_f2
  clear HBY
  go_wp2_with fail
  obtain ⟨lo4, hlo4⟩ : ∃ q, q = w2.heap.size := ⟨_, rfl⟩
  have HC_o := HC
  clear HC
  refine (l12Deps_any _ cb ba bn bc HC_o (by omega)).mono ?_
  rintro e w4 ⟨b, n, c, ds, rfl, ho, hds, HC, z4⟩
  clear HC_o
  have s5 := z4.size
  have hb5 := hb3.trans ((z4.below (by omega)).mono (by omega))
  replace R_0 := txc z4 R_0
  replace R_1 := txc z4 R_1
  replace R_2 := txc z4 R_2
  replace R_f0 := txf z4 R_f0
  replace R_f1 := txf z4 R_f1
  replace R_f2 := txf z4 R_f2
  rw [← hlo4] at ho
  obtain ⟨hi5, hhi5⟩ : ∃ q, q = w4.heap.size := ⟨_, rfl⟩
  rw [← hhi5] at ho
  have hlh : cb + 1 ≤ lo4 ∧ w.heap.size + 1 ≤ cb := by omega
  have hlh2 : lo4 ≤ hi5 := by omega
  have HSM := Lib.hid hds
  clear hds
  obtain ⟨w6, hw6⟩ : ∃ W, W = w4.alloc (.cells #[.string (ByteArray.mk #[114]), .string (ByteArray.mk #[117]), .string (ByteArray.mk #[117])] 9) := ⟨_, rfl⟩
  have z6 : Below w4.heap.size w4 w6 := by rw [hw6]; exact (Below.refl _ _).alloc (Nat.le_refl _) _
  have s6 : w6.heap.size = w4.heap.size + 1 := by rw [hw6]; simp
  have hb6 := on hb5 z6
  have old6_R_0 := R_0
  have old6_R_1 := R_1
  have old6_R_2 := R_2
  replace R_0 := bxc z6 R_0
  replace R_1 := bxc z6 R_1
  replace R_2 := bxc z6 R_2
  replace R_f0 := bxf z6 R_f0
  replace R_f1 := bxf z6 R_f1
  replace R_f2 := bxf z6 R_f2
  replace HC := HC.below' z6 (by omega)
  replace ho := ho.below z6 (by omega)
  have P_0 : w6.cell? ⟨w4.heap.size, 0, none⟩ = some (.string (ByteArray.mk #[114])) := by rw [hw6]; exact box_cell (Below.refl _ _) rfl
  have P_1 : w6.cell? ⟨w4.heap.size, 1, none⟩ = some (.string (ByteArray.mk #[117])) := by rw [hw6]; exact box_cell (Below.refl _ _) rfl
  have P_2 : w6.cell? ⟨w4.heap.size, 2, none⟩ = some (.string (ByteArray.mk #[117])) := by rw [hw6]; exact box_cell (Below.refl _ _) rfl
  have raw6_R_0 := R_0
  have raw6_R_1 := R_1
  have raw6_R_2 := R_2
  have raw6_R_f0 := R_f0
  have raw6_R_f1 := R_f1
  have raw6_R_f2 := R_f2
  have raw6_P_0 := P_0
  have raw6_P_1 := P_1
  have raw6_P_2 := P_2
  rw [hw6] at raw6_R_0 raw6_R_1 raw6_R_2 raw6_R_f0 raw6_R_f1 raw6_R_f2 raw6_P_0 raw6_P_1 raw6_P_2
  have hN : ∀ i, i < 3 → ∃ s, s ∈ [ByteArray.mk #[114], ByteArray.mk #[117], ByteArray.mk #[117]] ∧ w6.cell? ⟨w4.heap.size, i, none⟩ = some (.string s) := fun i hi => by
    rcases (by omega : i = 0 ∨ i = 1 ∨ i = 2) with rfl | rfl | rfl
    · exact ⟨_, by simp, P_0⟩
    · exact ⟨_, by simp, P_1⟩
    · exact ⟨_, by simp, P_2⟩
  clear P_0 P_1 P_2
  go_wp2_with fail
  rw [← hw6]
  clear hw6
  clear old6_R_0 old6_R_1 old6_R_2 raw6_R_0 raw6_R_1 raw6_R_2 raw6_R_f0 raw6_R_f1 raw6_R_f2 raw6_P_0 raw6_P_1 raw6_P_2
  have HC_o := HC
  clear HC
  refine (l1Pick_any _ cb ba bn bc _ 3 3 _ (by omega) (by omega) hN (by omega) HC_o).mono ?_
  rintro e w7 ⟨nm, rfl, hnm, HC, z7⟩
  clear HC_o
  have s8 := Nat.le_of_eq z7.size
  have s8' := Nat.le_of_eq z7.size.symm
  replace z7 := z7.turn
  have hb8 := hb6.trans ((z7.below (by omega)).mono (by omega))
  replace R_0 := txc z7 R_0
  replace R_1 := txc z7 R_1
  replace R_2 := txc z7 R_2
  replace R_f0 := txf z7 R_f0
  replace R_f1 := txf z7 R_f1
  replace R_f2 := txf z7 R_f2
  replace ho := ho.turn z7 (by omega)
  clear hN
  have hnm2 : nm = ByteArray.mk #[114] ∨ nm = ByteArray.mk #[117] := by
    simp only [List.mem_cons, List.not_mem_nil, or_false] at hnm
    rcases hnm with h | h | h
    · exact .inl h
    · exact .inr h
    · exact .inr h
  clear hnm
  have hnms : nm.size ≤ 5 := by rcases hnm2 with rfl | rfl <;> decide
  go_wp2_with fail
  obtain ⟨lo6, hlo6⟩ : ∃ q, q = w7.heap.size := ⟨_, rfl⟩
  have HC_o := HC
  clear HC
  refine (l4Tab_any _ cb ba bn bc nm 2 4 3 (by omega) (by omega) (by omega) HC_o (by omega)).mono ?_
  rintro e w9 ⟨b2, n2, c2, rows, rfl, ho2, hrl, hrr, HC, z9⟩
  clear HC_o
  have s10 := z9.size
  have hb10 := hb8.trans ((z9.below (by omega)).mono (by omega))
  replace R_0 := txc z9 R_0
  replace R_1 := txc z9 R_1
  replace R_2 := txc z9 R_2
  replace R_f0 := txf z9 R_f0
  replace R_f1 := txf z9 R_f1
  replace R_f2 := txf z9 R_f2
  replace ho := ho.turn z9 (by omega)
  rw [← hlo6] at ho2
  obtain ⟨hi6, hhi6⟩ : ∃ q, q = w9.heap.size := ⟨_, rfl⟩
  rw [← hhi6] at ho2
  have hl6 : hi5 ≤ lo6 ∧ lo6 ≤ hi6 := by omega
  clear hrr hrl
  obtain ⟨w11, hw11⟩ : ∃ W, W = w9.alloc (.cells #[.string nm, .int .i64 2, .slice b2 n2 c2] 41) := ⟨_, rfl⟩
  have z11 : Below w9.heap.size w9 w11 := by rw [hw11]; exact (Below.refl _ _).alloc (Nat.le_refl _) _
  have s11 : w11.heap.size = w9.heap.size + 1 := by rw [hw11]; simp
  have hb11 := on hb10 z11
  have old11_R_0 := R_0
  have old11_R_1 := R_1
  have old11_R_2 := R_2
  replace R_0 := bxc z11 R_0
  replace R_1 := bxc z11 R_1
  replace R_2 := bxc z11 R_2
  replace R_f0 := bxf z11 R_f0
  replace R_f1 := bxf z11 R_f1
  replace R_f2 := bxf z11 R_f2
  replace HC := HC.below' z11 (by omega)
  replace ho := ho.below z11 (by omega)
  replace ho2 := ho2.below z11 (by omega)
  have X_0 : w11.cell? ⟨w9.heap.size, 0, none⟩ = some (.string nm) := by rw [hw11]; exact box_cell (Below.refl _ _) rfl
  have X_1 : w11.cell? ⟨w9.heap.size, 1, none⟩ = some (.int .i64 2) := by rw [hw11]; exact box_cell (Below.refl _ _) rfl
  have X_2 : w11.cell? ⟨w9.heap.size, 2, none⟩ = some (.slice b2 n2 c2) := by rw [hw11]; exact box_cell (Below.refl _ _) rfl
  have X_f0 : w11.frozen? ⟨w9.heap.size, 0, none⟩ = false := by rw [hw11]; exact box_frozen (Below.refl _ _)
  have X_f1 : w11.frozen? ⟨w9.heap.size, 1, none⟩ = false := by rw [hw11]; exact box_frozen (Below.refl _ _)
  have X_f2 : w11.frozen? ⟨w9.heap.size, 2, none⟩ = false := by rw [hw11]; exact box_frozen (Below.refl _ _)
  have raw11_R_0 := R_0
  have raw11_R_1 := R_1
  have raw11_R_2 := R_2
  have raw11_R_f0 := R_f0
  have raw11_R_f1 := R_f1
  have raw11_R_f2 := R_f2
  have raw11_X_0 := X_0
  have raw11_X_1 := X_1
  have raw11_X_2 := X_2
  have raw11_X_f0 := X_f0
  have raw11_X_f1 := X_f1
  have raw11_X_f2 := X_f2
  rw [hw11] at raw11_R_0 raw11_R_1 raw11_R_2 raw11_R_f0 raw11_R_f1 raw11_R_f2 raw11_X_0 raw11_X_1 raw11_X_2 raw11_X_f0 raw11_X_f1 raw11_X_f2
  rcases hnm2 with rfl | rfl
  · skip
    go_wp2_with fail
    rw [← hw11]
    clear hw11
    clear old11_R_0 old11_R_1 old11_R_2 raw11_R_0 raw11_R_1 raw11_R_2 raw11_R_f0 raw11_R_f1 raw11_R_f2 raw11_X_0 raw11_X_1 raw11_X_2 raw11_X_f0 raw11_X_f1 raw11_X_f2
    obtain ⟨wo, rfl⟩ : ∃ W, W = w11 := ⟨_, rfl⟩
    have oT1 : Own oT lo6 hi6 wo [.string (ByteArray.mk #[114]), .int .i64 2, .slice b2 n2 c2] ((ByteArray.mk #[114]), 2, rows) := oT_mk (x := ((ByteArray.mk #[114]), 2, rows)) (show ((ByteArray.mk #[114]) : ByteArray).size ≤ 9223372036854775807 by decide) (show I64 2 by constructor <;> decide) ho2 (Nat.le_refl _) (Nat.le_refl _)
    obtain ⟨xbb, hxbb⟩ : ∃ q, q = w9.heap.size := ⟨_, rfl⟩
    have HKA : Hid (KS w cb ba bn bc w9.heap.size lo4 hi5 b n c ds (ByteArray.mk #[114]) 2 b2 n2 c2 rows wo) := Lib.hid ⟨⟨X_0, X_1, X_2⟩, ⟨X_f0, X_f1, X_f2⟩, ⟨R_0, R_1, R_2⟩, ⟨R_f0, R_f1, R_f2⟩, ho, ⟨lo6, hi6, oT1, .inl (by omega), by omega, by omega⟩, ⟨by omega, by omega, by omega, by omega, by omega⟩, HC, hb11⟩
    rw [← hxbb] at HKA ⊢
    clear oT1
    clear ho ho2 HC X_0 X_1 X_2 X_f0 X_f1 X_f2 R_0 R_1 R_2 R_f0 R_f1 R_f2
    clear hb11 hxbb
    try clear hb11
    try clear s11
    try clear z11
    try clear hb10
    try clear s10
    try clear z9
    try clear hb8
    try clear s8
    try clear z7
    try clear hb6
    try clear s6
    try clear z6
    try clear hb5
    try clear s5
    try clear z4
    try clear hb3
    try clear s3
    try clear hb1
    try clear s1
    try clear z1
    try clear hb0
    obtain ⟨⟨f0, f1, f2⟩, ⟨g0, g1, g2⟩, _⟩ := HKA.out
    have HON := Lib.hid (l1Once_any wo cb ba bn bc 14 (by omega) HKA.out.cur)
    go_wp2_with fail
    clear f0 f1 f2 g0 g1 g2
    obtain ⟨A, hA⟩ : ∃ q : Int, q = 2 := ⟨_, rfl⟩
    rw [← hA] at HKA
    obtain ⟨tb, tn, tc, rws, HK⟩ : ∃ tb tn tc rws, Hid (KS w cb ba bn bc xbb lo4 hi5 b n c ds (ByteArray.mk #[114]) A tb tn tc rws wo) := ⟨_, _, _, _, HKA⟩
    clear HKA hA
    refine HON.out.mono ?_
    rintro e w2 ⟨u, rfl, hc2, hk2⟩
    have HKZ := Lib.hid (HK.out.turn hk2.turn hc2)
    clear HON hc2 hk2 HK
    cases u with
    | false =>
      obtain ⟨⟨f0, f1, f2⟩, _⟩ := HKZ.out
      have hl := HKZ.out.lims
      have hdr : Below w2.heap.size w2 w2.drew := (Below.refl _ _).drew
      obtain ⟨wd, hwd⟩ : ∃ W, W = w2.drew := ⟨_, rfl⟩
      rw [← hwd] at hdr
      have HKD := Lib.hid (HKZ.out.turn (turn_below hdr (Nat.le_refl _)) (HKZ.out.cur.below' hdr (by omega)))
      clear HKZ hdr
      go_wp2_with fail
      refine wp_region_noPanic ?_
      refine wp_region_held_drew (S := (fun W => W.cell? ⟨xbb, 0, none⟩ = some (.string (ByteArray.mk #[114])) ∧ W.cell? ⟨xbb, 1, none⟩ = some (.int .i64 A) ∧ W.cell? ⟨xbb, 2, none⟩ = some (.slice tb tn tc))) (by kernel_rfl) ?hS12 (fun hHeld => ?_)
      case hS12 => exact ⟨f0, f1, f2⟩
      refine wpAnyH_take (i := 0) (v := ?v0_13) rfl (by kernel_rfl) (by kernel_rfl) (by kernel_rfl) (fun _ _ _ h => h) (Or.inl ⟨by rfl, ?hy0_13⟩) (by assumption) ?rest0_13
      case hy0_13 => intro w hSw; (try dsimp only at hSw); go_simp; (try with_reducible rfl)
      try simp only [Act.put, lgA, lgB, lgC, lgD, lgE, lgF]
      refine wpAnyH_take (i := 1) (v := ?v1_14) rfl (by kernel_rfl) (by kernel_rfl) (by kernel_rfl) (fun _ _ _ h => h) (Or.inl ⟨by rfl, ?hy1_14⟩) (by assumption) ?rest1_14
      case hy1_14 => intro w hSw; (try dsimp only at hSw); go_simp; (try with_reducible rfl)
      try simp only [Act.put, lgA, lgB, lgC, lgD, lgE, lgF]
      refine wpAnyH_take (i := 2) (v := ?v2_15) rfl (by kernel_rfl) (by kernel_rfl) (by kernel_rfl) (fun _ _ _ h => h) (Or.inl ⟨by rfl, ?hy2_15⟩) (by assumption) ?rest2_15
      case hy2_15 => intro w hSw; (try dsimp only at hSw); go_simp; (try with_reducible rfl)
      try simp only [Act.put, lgA, lgB, lgC, lgD, lgE, lgF]
      refine wpAnyH_take (i := 3) (v := ?v3_16) rfl (by kernel_rfl) (by kernel_rfl) (by kernel_rfl) (fun _ _ _ h => h) (Or.inl ⟨by rfl, ?hy3_16⟩) (by assumption) ?rest3_16
      case hy3_16 => intro w hSw; (try dsimp only at hSw); go_simp; (try with_reducible rfl)
      try simp only [Act.put, lgA, lgB, lgC, lgD, lgE, lgF]
      refine wpAnyH_take (i := 4) (v := ?v4_17) rfl (by kernel_rfl) (by kernel_rfl) (by kernel_rfl) (fun _ _ _ h => h) (Or.inl ⟨by rfl, ?hy4_17⟩) (by assumption) ?rest4_17
      case hy4_17 => intro w hSw; (try dsimp only at hSw); go_simp; (try with_reducible rfl)
      try simp only [Act.put, lgA, lgB, lgC, lgD, lgE, lgF]
      rw [← hwd]
      clear hwd f0 f1 f2
      obtain ⟨⟨f0, f1, f2⟩, _, ⟨r0, r1, r2⟩, ⟨s0, s1, s2⟩, _⟩ := HKD.out
      have hl := HKD.out.lims
      have HFIN := Lib.hid (HKD.out.fin HSM.out)
      clear HKD
      refine wpAnyH_ready (rs := [5]) (by kernel_rfl) (by simp) ?_
      refine AllReadyH.cons rfl (fun K9 hK9 => ?_) AllReadyH.nil
      go_simp
      obtain ⟨v0, hv0⟩ : ∃ W, W = wd.setCell ⟨w.heap.size, 0, none⟩ (.string (ByteArray.mk #[114])) := ⟨_, rfl⟩
      obtain ⟨v1, hv1⟩ : ∃ W, W = v0.setCell ⟨w.heap.size, 1, none⟩ (.int .i64 A) := ⟨_, rfl⟩
      obtain ⟨v2, hv2⟩ : ∃ W, W = v1.setCell ⟨w.heap.size, 2, none⟩ (.slice tb tn tc) := ⟨_, rfl⟩
      have n0 : v2.cell? ⟨xbb, 0, none⟩ = some (.string (ByteArray.mk #[114])) := cl_off hv2 (by simp only []; omega) (cl_off hv1 (by simp only []; omega) (cl_off hv0 (by simp only []; omega) f0))
      have n1 : v2.cell? ⟨xbb, 1, none⟩ = some (.int .i64 A) := cl_off hv2 (by simp only []; omega) (cl_off hv1 (by simp only []; omega) (cl_off hv0 (by simp only []; omega) f1))
      have n2 : v2.cell? ⟨xbb, 2, none⟩ = some (.slice tb tn tc) := cl_off hv2 (by simp only []; omega) (cl_off hv1 (by simp only []; omega) (cl_off hv0 (by simp only []; omega) f2))
      have k0 : v2.cell? ⟨w.heap.size, 0, none⟩ = some (.string (ByteArray.mk #[114])) := by rw [hv2, hv1, hv0]; simp [go_sem, r0, r1, r2]
      have k1 : v2.cell? ⟨w.heap.size, 1, none⟩ = some (.int .i64 A) := by rw [hv2, hv1, hv0]; simp [go_sem, r0, r1, r2]
      have k2 : v2.cell? ⟨w.heap.size, 2, none⟩ = some (.slice tb tn tc) := by rw [hv2, hv1, hv0]; simp [go_sem, r0, r1, r2]
      have j0 : v2.frozen? ⟨w.heap.size, 0, none⟩ = false := by rw [hv2, hv1, hv0]; simp [go_sem, s0, s1, s2]
      have j1 : v2.frozen? ⟨w.heap.size, 1, none⟩ = false := by rw [hv2, hv1, hv0]; simp [go_sem, s0, s1, s2]
      have j2 : v2.frozen? ⟨w.heap.size, 2, none⟩ = false := by rw [hv2, hv1, hv0]; simp [go_sem, s0, s1, s2]
      rw [← hv0, ← hv1, ← hv2] at HFIN
      rw [← hv0, ← hv1, ← hv2]
      clear hv0 hv1 hv2
      refine hK9.out _ _ ⟨n0, n1, n2⟩ (fun hHeld => ?_)
      clear hK9 K9
      try simp only [Act.put, lgA, lgB, lgC, lgD, lgE, lgF]

      refine wpAnyH_done (by kernel_rfl) ?_ _
      refine NoPanic.normal ?_
      go_wp2_with fail
      refine bodyPost_ret (v := .tuple #[.pointer (some ⟨cb, 0, none⟩), .slice b n c, .agg #[.string (ByteArray.mk #[114]), .int .i64 A, .slice tb tn tc]]) (by simp [results, Tryz.results48, go_sem, k0, k1, k2, j0, j1, j2]) rfl HFIN.out
    | true =>
      obtain ⟨⟨f0, f1, f2⟩, ⟨g0, g1, g2⟩, _⟩ := HKZ.out
      have hl := HKZ.out.lims
      have HAN := Lib.hid (l4Any_any w2 cb ba bn bc HKZ.out.cur (by omega))
      go_wp2_with fail
      refine HAN.out.mono ?_
      rintro e w3 ⟨nm2, A2, b3, n3, c3, rows3, rfl, hns, hA1, hA2, ho3, hrl3, hrr3, hc3, ht3⟩
      have HK4 := Lib.hid (HKZ.out.turn ht3 hc3)
      have oT3 : Own oT w2.heap.size w3.heap.size w3 [.string nm2, .int .i64 A2, .slice b3 n3 c3] (nm2, A2, rows3) := oT_mk (x := (nm2, A2, rows3)) (show nm2.size ≤ _ by omega) (show I64 A2 by unfold I64; omega) ho3 (Nat.le_refl _) (Nat.le_refl _)
      have HK5 := Lib.hid (HK4.out.set oT3 (by omega) (Nat.le_refl _))
      clear HAN ho3 hrl3 hrr3 hc3 ht3 oT3 f0 f1 f2 g0 g1 g2 HKZ hns hA1 hA2 hl
      obtain ⟨⟨f0, f1, f2⟩, ⟨g0, g1, g2⟩, _⟩ := HK4.out
      clear HK4
      obtain ⟨wz, hwz⟩ : ∃ W, W = ((w3.setCell ⟨xbb, 0, none⟩ (.string nm2)).setCell ⟨xbb, 1, none⟩ (.int .i64 A2)).setCell ⟨xbb, 2, none⟩ (.slice b3 n3 c3) := ⟨_, rfl⟩
      rw [← hwz] at HK5
      go_wp2_with (rw [← hwz])
      have HKZ := HK5
      try rw [← hwz]
      clear HK5 hwz f0 f1 f2 g0 g1 g2
      obtain ⟨⟨f0, f1, f2⟩, _⟩ := HKZ.out
      have hl := HKZ.out.lims
      have hdr : Below wz.heap.size wz wz.drew := (Below.refl _ _).drew
      obtain ⟨wd, hwd⟩ : ∃ W, W = wz.drew := ⟨_, rfl⟩
      rw [← hwd] at hdr
      have HKD := Lib.hid (HKZ.out.turn (turn_below hdr (Nat.le_refl _)) (HKZ.out.cur.below' hdr (by omega)))
      clear HKZ hdr
      go_wp2_with fail
      refine wp_region_noPanic ?_
      refine wp_region_held_drew (S := (fun W => W.cell? ⟨xbb, 0, none⟩ = some (.string nm2) ∧ W.cell? ⟨xbb, 1, none⟩ = some (.int .i64 A2) ∧ W.cell? ⟨xbb, 2, none⟩ = some (.slice b3 n3 c3))) (by kernel_rfl) ?hS18 (fun hHeld => ?_)
      case hS18 => exact ⟨f0, f1, f2⟩
      refine wpAnyH_take (i := 0) (v := ?v0_19) rfl (by kernel_rfl) (by kernel_rfl) (by kernel_rfl) (fun _ _ _ h => h) (Or.inl ⟨by rfl, ?hy0_19⟩) (by assumption) ?rest0_19
      case hy0_19 => intro w hSw; (try dsimp only at hSw); go_simp; (try with_reducible rfl)
      try simp only [Act.put, lgA, lgB, lgC, lgD, lgE, lgF]
      refine wpAnyH_take (i := 1) (v := ?v1_20) rfl (by kernel_rfl) (by kernel_rfl) (by kernel_rfl) (fun _ _ _ h => h) (Or.inl ⟨by rfl, ?hy1_20⟩) (by assumption) ?rest1_20
      case hy1_20 => intro w hSw; (try dsimp only at hSw); go_simp; (try with_reducible rfl)
      try simp only [Act.put, lgA, lgB, lgC, lgD, lgE, lgF]
      refine wpAnyH_take (i := 2) (v := ?v2_21) rfl (by kernel_rfl) (by kernel_rfl) (by kernel_rfl) (fun _ _ _ h => h) (Or.inl ⟨by rfl, ?hy2_21⟩) (by assumption) ?rest2_21
      case hy2_21 => intro w hSw; (try dsimp only at hSw); go_simp; (try with_reducible rfl)
      try simp only [Act.put, lgA, lgB, lgC, lgD, lgE, lgF]
      refine wpAnyH_take (i := 3) (v := ?v3_22) rfl (by kernel_rfl) (by kernel_rfl) (by kernel_rfl) (fun _ _ _ h => h) (Or.inl ⟨by rfl, ?hy3_22⟩) (by assumption) ?rest3_22
      case hy3_22 => intro w hSw; (try dsimp only at hSw); go_simp; (try with_reducible rfl)
      try simp only [Act.put, lgA, lgB, lgC, lgD, lgE, lgF]
      refine wpAnyH_take (i := 4) (v := ?v4_23) rfl (by kernel_rfl) (by kernel_rfl) (by kernel_rfl) (fun _ _ _ h => h) (Or.inl ⟨by rfl, ?hy4_23⟩) (by assumption) ?rest4_23
      case hy4_23 => intro w hSw; (try dsimp only at hSw); go_simp; (try with_reducible rfl)
      try simp only [Act.put, lgA, lgB, lgC, lgD, lgE, lgF]
      rw [← hwd]
      clear hwd f0 f1 f2
      obtain ⟨⟨f0, f1, f2⟩, _, ⟨r0, r1, r2⟩, ⟨s0, s1, s2⟩, _⟩ := HKD.out
      have hl := HKD.out.lims
      have HFIN := Lib.hid (HKD.out.fin HSM.out)
      clear HKD
      refine wpAnyH_ready (rs := [5]) (by kernel_rfl) (by simp) ?_
      refine AllReadyH.cons rfl (fun K9 hK9 => ?_) AllReadyH.nil
      go_simp
      obtain ⟨v0, hv0⟩ : ∃ W, W = wd.setCell ⟨w.heap.size, 0, none⟩ (.string nm2) := ⟨_, rfl⟩
      obtain ⟨v1, hv1⟩ : ∃ W, W = v0.setCell ⟨w.heap.size, 1, none⟩ (.int .i64 A2) := ⟨_, rfl⟩
      obtain ⟨v2, hv2⟩ : ∃ W, W = v1.setCell ⟨w.heap.size, 2, none⟩ (.slice b3 n3 c3) := ⟨_, rfl⟩
      have n0 : v2.cell? ⟨xbb, 0, none⟩ = some (.string nm2) := cl_off hv2 (by simp only []; omega) (cl_off hv1 (by simp only []; omega) (cl_off hv0 (by simp only []; omega) f0))
      have n1 : v2.cell? ⟨xbb, 1, none⟩ = some (.int .i64 A2) := cl_off hv2 (by simp only []; omega) (cl_off hv1 (by simp only []; omega) (cl_off hv0 (by simp only []; omega) f1))
      have n2 : v2.cell? ⟨xbb, 2, none⟩ = some (.slice b3 n3 c3) := cl_off hv2 (by simp only []; omega) (cl_off hv1 (by simp only []; omega) (cl_off hv0 (by simp only []; omega) f2))
      have k0 : v2.cell? ⟨w.heap.size, 0, none⟩ = some (.string nm2) := by rw [hv2, hv1, hv0]; simp [go_sem, r0, r1, r2]
      have k1 : v2.cell? ⟨w.heap.size, 1, none⟩ = some (.int .i64 A2) := by rw [hv2, hv1, hv0]; simp [go_sem, r0, r1, r2]
      have k2 : v2.cell? ⟨w.heap.size, 2, none⟩ = some (.slice b3 n3 c3) := by rw [hv2, hv1, hv0]; simp [go_sem, r0, r1, r2]
      have j0 : v2.frozen? ⟨w.heap.size, 0, none⟩ = false := by rw [hv2, hv1, hv0]; simp [go_sem, s0, s1, s2]
      have j1 : v2.frozen? ⟨w.heap.size, 1, none⟩ = false := by rw [hv2, hv1, hv0]; simp [go_sem, s0, s1, s2]
      have j2 : v2.frozen? ⟨w.heap.size, 2, none⟩ = false := by rw [hv2, hv1, hv0]; simp [go_sem, s0, s1, s2]
      rw [← hv0, ← hv1, ← hv2] at HFIN
      rw [← hv0, ← hv1, ← hv2]
      clear hv0 hv1 hv2
      refine hK9.out _ _ ⟨n0, n1, n2⟩ (fun hHeld => ?_)
      clear hK9 K9
      try simp only [Act.put, lgA, lgB, lgC, lgD, lgE, lgF]

      refine wpAnyH_done (by kernel_rfl) ?_ _
      refine NoPanic.normal ?_
      go_wp2_with fail
      refine bodyPost_ret (v := .tuple #[.pointer (some ⟨cb, 0, none⟩), .slice b n c, .agg #[.string nm2, .int .i64 A2, .slice b3 n3 c3]]) (by simp [results, Tryz.results48, go_sem, k0, k1, k2, j0, j1, j2]) rfl HFIN.out
  · skip
    go_wp2_with fail
    rw [← hw11]
    clear hw11
    clear old11_R_0 old11_R_1 old11_R_2 raw11_R_0 raw11_R_1 raw11_R_2 raw11_R_f0 raw11_R_f1 raw11_R_f2 raw11_X_0 raw11_X_1 raw11_X_2 raw11_X_f0 raw11_X_f1 raw11_X_f2
    obtain ⟨wo, rfl⟩ : ∃ W, W = w11 := ⟨_, rfl⟩
    have oT1 : Own oT lo6 hi6 wo [.string (ByteArray.mk #[117]), .int .i64 2, .slice b2 n2 c2] ((ByteArray.mk #[117]), 2, rows) := oT_mk (x := ((ByteArray.mk #[117]), 2, rows)) (show ((ByteArray.mk #[117]) : ByteArray).size ≤ 9223372036854775807 by decide) (show I64 2 by constructor <;> decide) ho2 (Nat.le_refl _) (Nat.le_refl _)
    obtain ⟨xbb, hxbb⟩ : ∃ q, q = w9.heap.size := ⟨_, rfl⟩
    have HKA : Hid (KS w cb ba bn bc w9.heap.size lo4 hi5 b n c ds (ByteArray.mk #[117]) 2 b2 n2 c2 rows wo) := Lib.hid ⟨⟨X_0, X_1, X_2⟩, ⟨X_f0, X_f1, X_f2⟩, ⟨R_0, R_1, R_2⟩, ⟨R_f0, R_f1, R_f2⟩, ho, ⟨lo6, hi6, oT1, .inl (by omega), by omega, by omega⟩, ⟨by omega, by omega, by omega, by omega, by omega⟩, HC, hb11⟩
    rw [← hxbb] at HKA ⊢
    clear oT1
    clear ho ho2 HC X_0 X_1 X_2 X_f0 X_f1 X_f2 R_0 R_1 R_2 R_f0 R_f1 R_f2
    clear hb11 hxbb
    try clear hb11
    try clear s11
    try clear z11
    try clear hb10
    try clear s10
    try clear z9
    try clear hb8
    try clear s8
    try clear z7
    try clear hb6
    try clear s6
    try clear z6
    try clear hb5
    try clear s5
    try clear z4
    try clear hb3
    try clear s3
    try clear hb1
    try clear s1
    try clear z1
    try clear hb0
    obtain ⟨⟨f0, f1, f2⟩, ⟨g0, g1, g2⟩, _⟩ := HKA.out
    have hl := HKA.out.lims
    have HT2 := Lib.hid (l4Tab_any wo cb ba bn bc (ByteArray.mk #[117]) 3 4 3 (by omega) (by omega) (by omega) HKA.out.cur (by omega))
    go_wp2_with fail
    refine HT2.out.mono ?_
    rintro e w1 ⟨b7, n7, c7, rows7, rfl, ho7, hrl7, hrr7, hc7, ht7⟩
    have HK1 := Lib.hid (HKA.out.turn ht7 hc7)
    have oT7 : Own oT wo.heap.size w1.heap.size w1 [.string (ByteArray.mk #[117]), .int .i64 3, .slice b7 n7 c7] (ByteArray.mk #[117], 3, rows7) := oT_mk (x := (ByteArray.mk #[117], 3, rows7)) (show (ByteArray.mk #[117]).size ≤ 9223372036854775807 by decide) (show I64 3 by constructor <;> decide) ho7 (Nat.le_refl _) (Nat.le_refl _)
    have HK2 := Lib.hid (HK1.out.set oT7 (by omega) (Nat.le_refl _))
    clear HT2 ho7 hrl7 hrr7 hc7 ht7 oT7 f0 f1 f2 g0 g1 g2
    obtain ⟨⟨f0, f1, f2⟩, ⟨g0, g1, g2⟩, _⟩ := HK1.out
    clear HK1 HKA
    obtain ⟨wb, hwb⟩ : ∃ W, W = ((w1.setCell ⟨xbb, 0, none⟩ (.string (ByteArray.mk #[117]))).setCell ⟨xbb, 1, none⟩ (.int .i64 3)).setCell ⟨xbb, 2, none⟩ (.slice b7 n7 c7) := ⟨_, rfl⟩
    rw [← hwb] at HK2
    have HON := Lib.hid (l1Once_any wb cb ba bn bc 14 (by omega) HK2.out.cur)
    go_wp2_with fail
    rw [← hwb]
    clear hwb f0 f1 f2 g0 g1 g2 hl
    obtain ⟨A, hA⟩ : ∃ q : Int, q = 3 := ⟨_, rfl⟩
    rw [← hA] at HK2
    obtain ⟨tb, tn, tc, rws, HK⟩ : ∃ tb tn tc rws, Hid (KS w cb ba bn bc xbb lo4 hi5 b n c ds (ByteArray.mk #[117]) A tb tn tc rws wb) := ⟨_, _, _, _, HK2⟩
    clear HK2 hA
    refine HON.out.mono ?_
    rintro e w2 ⟨u, rfl, hc2, hk2⟩
    have HKZ := Lib.hid (HK.out.turn hk2.turn hc2)
    clear HON hc2 hk2 HK
    cases u with
    | false =>
      obtain ⟨⟨f0, f1, f2⟩, _⟩ := HKZ.out
      have hl := HKZ.out.lims
      have hdr : Below w2.heap.size w2 w2.drew := (Below.refl _ _).drew
      obtain ⟨wd, hwd⟩ : ∃ W, W = w2.drew := ⟨_, rfl⟩
      rw [← hwd] at hdr
      have HKD := Lib.hid (HKZ.out.turn (turn_below hdr (Nat.le_refl _)) (HKZ.out.cur.below' hdr (by omega)))
      clear HKZ hdr
      go_wp2_with fail
      refine wp_region_noPanic ?_
      refine wp_region_held_drew (S := (fun W => W.cell? ⟨xbb, 0, none⟩ = some (.string (ByteArray.mk #[117])) ∧ W.cell? ⟨xbb, 1, none⟩ = some (.int .i64 A) ∧ W.cell? ⟨xbb, 2, none⟩ = some (.slice tb tn tc))) (by kernel_rfl) ?hS24 (fun hHeld => ?_)
      case hS24 => exact ⟨f0, f1, f2⟩
      refine wpAnyH_take (i := 0) (v := ?v0_25) rfl (by kernel_rfl) (by kernel_rfl) (by kernel_rfl) (fun _ _ _ h => h) (Or.inl ⟨by rfl, ?hy0_25⟩) (by assumption) ?rest0_25
      case hy0_25 => intro w hSw; (try dsimp only at hSw); go_simp; (try with_reducible rfl)
      try simp only [Act.put, lgA, lgB, lgC, lgD, lgE, lgF]
      refine wpAnyH_take (i := 1) (v := ?v1_26) rfl (by kernel_rfl) (by kernel_rfl) (by kernel_rfl) (fun _ _ _ h => h) (Or.inl ⟨by rfl, ?hy1_26⟩) (by assumption) ?rest1_26
      case hy1_26 => intro w hSw; (try dsimp only at hSw); go_simp; (try with_reducible rfl)
      try simp only [Act.put, lgA, lgB, lgC, lgD, lgE, lgF]
      refine wpAnyH_take (i := 2) (v := ?v2_27) rfl (by kernel_rfl) (by kernel_rfl) (by kernel_rfl) (fun _ _ _ h => h) (Or.inl ⟨by rfl, ?hy2_27⟩) (by assumption) ?rest2_27
      case hy2_27 => intro w hSw; (try dsimp only at hSw); go_simp; (try with_reducible rfl)
      try simp only [Act.put, lgA, lgB, lgC, lgD, lgE, lgF]
      refine wpAnyH_take (i := 3) (v := ?v3_28) rfl (by kernel_rfl) (by kernel_rfl) (by kernel_rfl) (fun _ _ _ h => h) (Or.inl ⟨by rfl, ?hy3_28⟩) (by assumption) ?rest3_28
      case hy3_28 => intro w hSw; (try dsimp only at hSw); go_simp; (try with_reducible rfl)
      try simp only [Act.put, lgA, lgB, lgC, lgD, lgE, lgF]
      refine wpAnyH_take (i := 4) (v := ?v4_29) rfl (by kernel_rfl) (by kernel_rfl) (by kernel_rfl) (fun _ _ _ h => h) (Or.inl ⟨by rfl, ?hy4_29⟩) (by assumption) ?rest4_29
      case hy4_29 => intro w hSw; (try dsimp only at hSw); go_simp; (try with_reducible rfl)
      try simp only [Act.put, lgA, lgB, lgC, lgD, lgE, lgF]
      rw [← hwd]
      clear hwd f0 f1 f2
      obtain ⟨⟨f0, f1, f2⟩, _, ⟨r0, r1, r2⟩, ⟨s0, s1, s2⟩, _⟩ := HKD.out
      have hl := HKD.out.lims
      have HFIN := Lib.hid (HKD.out.fin HSM.out)
      clear HKD
      refine wpAnyH_ready (rs := [5]) (by kernel_rfl) (by simp) ?_
      refine AllReadyH.cons rfl (fun K9 hK9 => ?_) AllReadyH.nil
      go_simp
      obtain ⟨v0, hv0⟩ : ∃ W, W = wd.setCell ⟨w.heap.size, 0, none⟩ (.string (ByteArray.mk #[117])) := ⟨_, rfl⟩
      obtain ⟨v1, hv1⟩ : ∃ W, W = v0.setCell ⟨w.heap.size, 1, none⟩ (.int .i64 A) := ⟨_, rfl⟩
      obtain ⟨v2, hv2⟩ : ∃ W, W = v1.setCell ⟨w.heap.size, 2, none⟩ (.slice tb tn tc) := ⟨_, rfl⟩
      have n0 : v2.cell? ⟨xbb, 0, none⟩ = some (.string (ByteArray.mk #[117])) := cl_off hv2 (by simp only []; omega) (cl_off hv1 (by simp only []; omega) (cl_off hv0 (by simp only []; omega) f0))
      have n1 : v2.cell? ⟨xbb, 1, none⟩ = some (.int .i64 A) := cl_off hv2 (by simp only []; omega) (cl_off hv1 (by simp only []; omega) (cl_off hv0 (by simp only []; omega) f1))
      have n2 : v2.cell? ⟨xbb, 2, none⟩ = some (.slice tb tn tc) := cl_off hv2 (by simp only []; omega) (cl_off hv1 (by simp only []; omega) (cl_off hv0 (by simp only []; omega) f2))
      have k0 : v2.cell? ⟨w.heap.size, 0, none⟩ = some (.string (ByteArray.mk #[117])) := by rw [hv2, hv1, hv0]; simp [go_sem, r0, r1, r2]
      have k1 : v2.cell? ⟨w.heap.size, 1, none⟩ = some (.int .i64 A) := by rw [hv2, hv1, hv0]; simp [go_sem, r0, r1, r2]
      have k2 : v2.cell? ⟨w.heap.size, 2, none⟩ = some (.slice tb tn tc) := by rw [hv2, hv1, hv0]; simp [go_sem, r0, r1, r2]
      have j0 : v2.frozen? ⟨w.heap.size, 0, none⟩ = false := by rw [hv2, hv1, hv0]; simp [go_sem, s0, s1, s2]
      have j1 : v2.frozen? ⟨w.heap.size, 1, none⟩ = false := by rw [hv2, hv1, hv0]; simp [go_sem, s0, s1, s2]
      have j2 : v2.frozen? ⟨w.heap.size, 2, none⟩ = false := by rw [hv2, hv1, hv0]; simp [go_sem, s0, s1, s2]
      rw [← hv0, ← hv1, ← hv2] at HFIN
      rw [← hv0, ← hv1, ← hv2]
      clear hv0 hv1 hv2
      refine hK9.out _ _ ⟨n0, n1, n2⟩ (fun hHeld => ?_)
      clear hK9 K9
      try simp only [Act.put, lgA, lgB, lgC, lgD, lgE, lgF]

      refine wpAnyH_done (by kernel_rfl) ?_ _
      refine NoPanic.normal ?_
      go_wp2_with fail
      refine bodyPost_ret (v := .tuple #[.pointer (some ⟨cb, 0, none⟩), .slice b n c, .agg #[.string (ByteArray.mk #[117]), .int .i64 A, .slice tb tn tc]]) (by simp [results, Tryz.results48, go_sem, k0, k1, k2, j0, j1, j2]) rfl HFIN.out
    | true =>
      obtain ⟨⟨f0, f1, f2⟩, ⟨g0, g1, g2⟩, _⟩ := HKZ.out
      have hl := HKZ.out.lims
      have HAN := Lib.hid (l4Any_any w2 cb ba bn bc HKZ.out.cur (by omega))
      go_wp2_with fail
      refine HAN.out.mono ?_
      rintro e w3 ⟨nm2, A2, b3, n3, c3, rows3, rfl, hns, hA1, hA2, ho3, hrl3, hrr3, hc3, ht3⟩
      have HK4 := Lib.hid (HKZ.out.turn ht3 hc3)
      have oT3 : Own oT w2.heap.size w3.heap.size w3 [.string nm2, .int .i64 A2, .slice b3 n3 c3] (nm2, A2, rows3) := oT_mk (x := (nm2, A2, rows3)) (show nm2.size ≤ _ by omega) (show I64 A2 by unfold I64; omega) ho3 (Nat.le_refl _) (Nat.le_refl _)
      have HK5 := Lib.hid (HK4.out.set oT3 (by omega) (Nat.le_refl _))
      clear HAN ho3 hrl3 hrr3 hc3 ht3 oT3 f0 f1 f2 g0 g1 g2 HKZ hns hA1 hA2 hl
      obtain ⟨⟨f0, f1, f2⟩, ⟨g0, g1, g2⟩, _⟩ := HK4.out
      clear HK4
      obtain ⟨wz, hwz⟩ : ∃ W, W = ((w3.setCell ⟨xbb, 0, none⟩ (.string nm2)).setCell ⟨xbb, 1, none⟩ (.int .i64 A2)).setCell ⟨xbb, 2, none⟩ (.slice b3 n3 c3) := ⟨_, rfl⟩
      rw [← hwz] at HK5
      go_wp2_with (rw [← hwz])
      have HKZ := HK5
      try rw [← hwz]
      clear HK5 hwz f0 f1 f2 g0 g1 g2
      obtain ⟨⟨f0, f1, f2⟩, _⟩ := HKZ.out
      have hl := HKZ.out.lims
      have hdr : Below wz.heap.size wz wz.drew := (Below.refl _ _).drew
      obtain ⟨wd, hwd⟩ : ∃ W, W = wz.drew := ⟨_, rfl⟩
      rw [← hwd] at hdr
      have HKD := Lib.hid (HKZ.out.turn (turn_below hdr (Nat.le_refl _)) (HKZ.out.cur.below' hdr (by omega)))
      clear HKZ hdr
      go_wp2_with fail
      refine wp_region_noPanic ?_
      refine wp_region_held_drew (S := (fun W => W.cell? ⟨xbb, 0, none⟩ = some (.string nm2) ∧ W.cell? ⟨xbb, 1, none⟩ = some (.int .i64 A2) ∧ W.cell? ⟨xbb, 2, none⟩ = some (.slice b3 n3 c3))) (by kernel_rfl) ?hS30 (fun hHeld => ?_)
      case hS30 => exact ⟨f0, f1, f2⟩
      refine wpAnyH_take (i := 0) (v := ?v0_31) rfl (by kernel_rfl) (by kernel_rfl) (by kernel_rfl) (fun _ _ _ h => h) (Or.inl ⟨by rfl, ?hy0_31⟩) (by assumption) ?rest0_31
      case hy0_31 => intro w hSw; (try dsimp only at hSw); go_simp; (try with_reducible rfl)
      try simp only [Act.put, lgA, lgB, lgC, lgD, lgE, lgF]
      refine wpAnyH_take (i := 1) (v := ?v1_32) rfl (by kernel_rfl) (by kernel_rfl) (by kernel_rfl) (fun _ _ _ h => h) (Or.inl ⟨by rfl, ?hy1_32⟩) (by assumption) ?rest1_32
      case hy1_32 => intro w hSw; (try dsimp only at hSw); go_simp; (try with_reducible rfl)
      try simp only [Act.put, lgA, lgB, lgC, lgD, lgE, lgF]
      refine wpAnyH_take (i := 2) (v := ?v2_33) rfl (by kernel_rfl) (by kernel_rfl) (by kernel_rfl) (fun _ _ _ h => h) (Or.inl ⟨by rfl, ?hy2_33⟩) (by assumption) ?rest2_33
      case hy2_33 => intro w hSw; (try dsimp only at hSw); go_simp; (try with_reducible rfl)
      try simp only [Act.put, lgA, lgB, lgC, lgD, lgE, lgF]
      refine wpAnyH_take (i := 3) (v := ?v3_34) rfl (by kernel_rfl) (by kernel_rfl) (by kernel_rfl) (fun _ _ _ h => h) (Or.inl ⟨by rfl, ?hy3_34⟩) (by assumption) ?rest3_34
      case hy3_34 => intro w hSw; (try dsimp only at hSw); go_simp; (try with_reducible rfl)
      try simp only [Act.put, lgA, lgB, lgC, lgD, lgE, lgF]
      refine wpAnyH_take (i := 4) (v := ?v4_35) rfl (by kernel_rfl) (by kernel_rfl) (by kernel_rfl) (fun _ _ _ h => h) (Or.inl ⟨by rfl, ?hy4_35⟩) (by assumption) ?rest4_35
      case hy4_35 => intro w hSw; (try dsimp only at hSw); go_simp; (try with_reducible rfl)
      try simp only [Act.put, lgA, lgB, lgC, lgD, lgE, lgF]
      rw [← hwd]
      clear hwd f0 f1 f2
      obtain ⟨⟨f0, f1, f2⟩, _, ⟨r0, r1, r2⟩, ⟨s0, s1, s2⟩, _⟩ := HKD.out
      have hl := HKD.out.lims
      have HFIN := Lib.hid (HKD.out.fin HSM.out)
      clear HKD
      refine wpAnyH_ready (rs := [5]) (by kernel_rfl) (by simp) ?_
      refine AllReadyH.cons rfl (fun K9 hK9 => ?_) AllReadyH.nil
      go_simp
      obtain ⟨v0, hv0⟩ : ∃ W, W = wd.setCell ⟨w.heap.size, 0, none⟩ (.string nm2) := ⟨_, rfl⟩
      obtain ⟨v1, hv1⟩ : ∃ W, W = v0.setCell ⟨w.heap.size, 1, none⟩ (.int .i64 A2) := ⟨_, rfl⟩
      obtain ⟨v2, hv2⟩ : ∃ W, W = v1.setCell ⟨w.heap.size, 2, none⟩ (.slice b3 n3 c3) := ⟨_, rfl⟩
      have n0 : v2.cell? ⟨xbb, 0, none⟩ = some (.string nm2) := cl_off hv2 (by simp only []; omega) (cl_off hv1 (by simp only []; omega) (cl_off hv0 (by simp only []; omega) f0))
      have n1 : v2.cell? ⟨xbb, 1, none⟩ = some (.int .i64 A2) := cl_off hv2 (by simp only []; omega) (cl_off hv1 (by simp only []; omega) (cl_off hv0 (by simp only []; omega) f1))
      have n2 : v2.cell? ⟨xbb, 2, none⟩ = some (.slice b3 n3 c3) := cl_off hv2 (by simp only []; omega) (cl_off hv1 (by simp only []; omega) (cl_off hv0 (by simp only []; omega) f2))
      have k0 : v2.cell? ⟨w.heap.size, 0, none⟩ = some (.string nm2) := by rw [hv2, hv1, hv0]; simp [go_sem, r0, r1, r2]
      have k1 : v2.cell? ⟨w.heap.size, 1, none⟩ = some (.int .i64 A2) := by rw [hv2, hv1, hv0]; simp [go_sem, r0, r1, r2]
      have k2 : v2.cell? ⟨w.heap.size, 2, none⟩ = some (.slice b3 n3 c3) := by rw [hv2, hv1, hv0]; simp [go_sem, r0, r1, r2]
      have j0 : v2.frozen? ⟨w.heap.size, 0, none⟩ = false := by rw [hv2, hv1, hv0]; simp [go_sem, s0, s1, s2]
      have j1 : v2.frozen? ⟨w.heap.size, 1, none⟩ = false := by rw [hv2, hv1, hv0]; simp [go_sem, s0, s1, s2]
      have j2 : v2.frozen? ⟨w.heap.size, 2, none⟩ = false := by rw [hv2, hv1, hv0]; simp [go_sem, s0, s1, s2]
      rw [← hv0, ← hv1, ← hv2] at HFIN
      rw [← hv0, ← hv1, ← hv2]
      clear hv0 hv1 hv2
      refine hK9.out _ _ ⟨n0, n1, n2⟩ (fun hHeld => ?_)
      clear hK9 K9
      try simp only [Act.put, lgA, lgB, lgC, lgD, lgE, lgF]

      refine wpAnyH_done (by kernel_rfl) ?_ _
      refine NoPanic.normal ?_
      go_wp2_with fail
      refine bodyPost_ret (v := .tuple #[.pointer (some ⟨cb, 0, none⟩), .slice b n c, .agg #[.string nm2, .int .i64 A2, .slice b3 n3 c3]]) (by simp [results, Tryz.results48, go_sem, k0, k1, k2, j0, j1, j2]) rfl HFIN.out

set_option maxRecDepth 100000 in
set_option maxHeartbeats 4000000 in
theorem drawMinKeys_any (w : World) (ba : Option Addr) (bn bc : Nat) (hn : bn ≤ 2000000) (h : Bytes w w.heap.size ba bn) :
    Calls Tryz.prog 15 #[.slice ba bn bc] w fun e w' => ∃ (lb : Option Addr) (ln lc : Nat) (ds : List DDp) (nm : ByteArray) (A : Int) (tb : Option Addr) (tn tc : Nat) (rows : List (List Int)), e = .returned (.tuple #[.slice lb ln lc, .agg #[.string nm, .int .i64 A, .slice tb tn tc]]) ∧ rDl.rep w' [.slice lb ln lc] ds ∧ (ds.length ≤ 3 ∧ SmallDs ds) ∧ rT.rep w' [.string nm, .int .i64 A, .slice tb tn tc] (nm, A, rows) ∧ Below w.heap.size w w' := by
  have hb0 : Below w.heap.size w w := Below.refl _ _
  go_enter Tryz.func15, Tryz.ntmps15
  obtain ⟨w1, hw1⟩ : ∃ W, W = w.alloc (.cells #[.string (ByteArray.mk #[]), .int .i64 0, .slice none 0 0] 41) := ⟨_, rfl⟩
  have z1 : Below w.heap.size w w1 := by rw [hw1]; exact (Below.refl _ _).alloc (Nat.le_refl _) _
  have s1 : w1.heap.size = w.heap.size + 1 := by rw [hw1]; simp
  have hb1 := on hb0 z1
  have R_0 : w1.cell? ⟨w.heap.size, 0, none⟩ = some (.string (ByteArray.mk #[])) := by rw [hw1]; exact box_cell (Below.refl _ _) rfl
  have R_1 : w1.cell? ⟨w.heap.size, 1, none⟩ = some (.int .i64 0) := by rw [hw1]; exact box_cell (Below.refl _ _) rfl
  have R_2 : w1.cell? ⟨w.heap.size, 2, none⟩ = some (.slice none 0 0) := by rw [hw1]; exact box_cell (Below.refl _ _) rfl
  have R_f0 : w1.frozen? ⟨w.heap.size, 0, none⟩ = false := by rw [hw1]; exact box_frozen (Below.refl _ _)
  have R_f1 : w1.frozen? ⟨w.heap.size, 1, none⟩ = false := by rw [hw1]; exact box_frozen (Below.refl _ _)
  have R_f2 : w1.frozen? ⟨w.heap.size, 2, none⟩ = false := by rw [hw1]; exact box_frozen (Below.refl _ _)
  have raw1_R_0 := R_0
  have raw1_R_1 := R_1
  have raw1_R_2 := R_2
  have raw1_R_f0 := R_f0
  have raw1_R_f1 := R_f1
  have raw1_R_f2 := R_f2
  rw [hw1] at raw1_R_0 raw1_R_1 raw1_R_2 raw1_R_f0 raw1_R_f1 raw1_R_f2
  have HBY := Lib.hid (bytes_at' h hb1)
  clear h
  go_wp2_with fail
  rw [← hw1]
  clear hw1
  clear raw1_R_0 raw1_R_1 raw1_R_2 raw1_R_f0 raw1_R_f1 raw1_R_f2
  obtain ⟨lo4, hlo4⟩ : ∃ q, q = w1.heap.size := ⟨_, rfl⟩
  refine (l12Keys_any _ ba bn bc hn HBY.out).mono ?_
  rintro e w2 ⟨cb, lb, ln, lc, ds, nm, A, tb, tn, tc, rows, rfl, ol, hds, ot, z2⟩
  have s3 := z2.size
  have hb3 := on hb1 z2
  replace R_0 := bxc z2 R_0
  replace R_1 := bxc z2 R_1
  replace R_2 := bxc z2 R_2
  replace R_f0 := bxf z2 R_f0
  replace R_f1 := bxf z2 R_f1
  replace R_f2 := bxf z2 R_f2
  clear HBY
  rw [← hlo4] at ol ot
  obtain ⟨hi5, hhi5⟩ : ∃ q, q = w2.heap.size := ⟨_, rfl⟩
  rw [← hhi5] at ol ot
  have hlh : w.heap.size + 1 ≤ lo4 := by omega
  have hlh2 : lo4 ≤ hi5 := by omega
  obtain ⟨w4, hw4⟩ : ∃ W, W = w2.alloc (.cells #[.string nm, .int .i64 A, .slice tb tn tc] 41) := ⟨_, rfl⟩
  have z4 : Below w2.heap.size w2 w4 := by rw [hw4]; exact (Below.refl _ _).alloc (Nat.le_refl _) _
  have s4 : w4.heap.size = w2.heap.size + 1 := by rw [hw4]; simp
  have hb4 := on hb3 z4
  have old4_R_0 := R_0
  have old4_R_1 := R_1
  have old4_R_2 := R_2
  replace R_0 := bxc z4 R_0
  replace R_1 := bxc z4 R_1
  replace R_2 := bxc z4 R_2
  replace R_f0 := bxf z4 R_f0
  replace R_f1 := bxf z4 R_f1
  replace R_f2 := bxf z4 R_f2
  replace ol := ol.below z4 (by omega)
  replace ot := ot.below z4 (by omega)
  have X_0 : w4.cell? ⟨w2.heap.size, 0, none⟩ = some (.string nm) := by rw [hw4]; exact box_cell (Below.refl _ _) rfl
  have X_1 : w4.cell? ⟨w2.heap.size, 1, none⟩ = some (.int .i64 A) := by rw [hw4]; exact box_cell (Below.refl _ _) rfl
  have X_2 : w4.cell? ⟨w2.heap.size, 2, none⟩ = some (.slice tb tn tc) := by rw [hw4]; exact box_cell (Below.refl _ _) rfl
  have raw4_R_0 := R_0
  have raw4_R_1 := R_1
  have raw4_R_2 := R_2
  have raw4_R_f0 := R_f0
  have raw4_R_f1 := R_f1
  have raw4_R_f2 := R_f2
  have raw4_X_0 := X_0
  have raw4_X_1 := X_1
  have raw4_X_2 := X_2
  rw [hw4] at raw4_R_0 raw4_R_1 raw4_R_2 raw4_R_f0 raw4_R_f1 raw4_R_f2 raw4_X_0 raw4_X_1 raw4_X_2
  go_wp2_with fail
  rw [← hw4]
  clear hw4
  clear old4_R_0 old4_R_1 old4_R_2 raw4_R_0 raw4_R_1 raw4_R_2 raw4_R_f0 raw4_R_f1 raw4_R_f2 raw4_X_0 raw4_X_1 raw4_X_2
  have hdr : Below w4.heap.size w4 w4.drew := (Below.refl _ _).drew
  obtain ⟨wd, hwd⟩ : ∃ W, W = w4.drew := ⟨_, rfl⟩
  rw [← hwd] at hdr
  refine wp_region_noPanic ?_
  refine wp_region_held_drew (S := (fun W => W.cell? ⟨w2.heap.size, 0, none⟩ = some (.string nm) ∧ W.cell? ⟨w2.heap.size, 1, none⟩ = some (.int .i64 A) ∧ W.cell? ⟨w2.heap.size, 2, none⟩ = some (.slice tb tn tc))) (by kernel_rfl) ?hS5 (fun hHeld => ?_)
  case hS5 => exact ⟨X_0, X_1, X_2⟩
  refine wpAnyH_take (i := 0) (v := ?v0_6) rfl (by kernel_rfl) (by kernel_rfl) (by kernel_rfl) (fun _ _ _ h => h) (Or.inl ⟨by rfl, ?hy0_6⟩) (by assumption) ?rest0_6
  case hy0_6 => intro w hSw; (try dsimp only at hSw); go_simp; (try with_reducible rfl)
  try simp only [Act.put, lgA, lgB, lgC, lgD, lgE, lgF]
  refine wpAnyH_take (i := 1) (v := ?v1_7) rfl (by kernel_rfl) (by kernel_rfl) (by kernel_rfl) (fun _ _ _ h => h) (Or.inl ⟨by rfl, ?hy1_7⟩) (by assumption) ?rest1_7
  case hy1_7 => intro w hSw; (try dsimp only at hSw); go_simp; (try with_reducible rfl)
  try simp only [Act.put, lgA, lgB, lgC, lgD, lgE, lgF]
  refine wpAnyH_take (i := 2) (v := ?v2_8) rfl (by kernel_rfl) (by kernel_rfl) (by kernel_rfl) (fun _ _ _ h => h) (Or.inl ⟨by rfl, ?hy2_8⟩) (by assumption) ?rest2_8
  case hy2_8 => intro w hSw; (try dsimp only at hSw); go_simp; (try with_reducible rfl)
  try simp only [Act.put, lgA, lgB, lgC, lgD, lgE, lgF]
  rw [← hwd]
  clear hwd
  have s9 := hdr.size
  have hb9 := on hb4 hdr
  replace R_0 := bxc hdr R_0
  replace R_1 := bxc hdr R_1
  replace R_2 := bxc hdr R_2
  replace R_f0 := bxf hdr R_f0
  replace R_f1 := bxf hdr R_f1
  replace R_f2 := bxf hdr R_f2
  replace ol := ol.below hdr (by omega)
  replace ot := ot.below hdr (by omega)
  replace X_0 := bxc hdr X_0
  replace X_1 := bxc hdr X_1
  replace X_2 := bxc hdr X_2
  refine wpAnyH_ready (rs := [3]) (by kernel_rfl) (by simp) ?_
  refine AllReadyH.cons rfl (fun K9 hK9 => ?_) AllReadyH.nil
  go_simp
  obtain ⟨v0, hv0⟩ : ∃ W, W = wd.setCell ⟨w.heap.size, 0, none⟩ (.string nm) := ⟨_, rfl⟩
  obtain ⟨v1, hv1⟩ : ∃ W, W = v0.setCell ⟨w.heap.size, 1, none⟩ (.int .i64 A) := ⟨_, rfl⟩
  obtain ⟨v2, hv2⟩ : ∃ W, W = v1.setCell ⟨w.heap.size, 2, none⟩ (.slice tb tn tc) := ⟨_, rfl⟩
  rw [← hv0, ← hv1, ← hv2]
  have n0 : v2.cell? ⟨w2.heap.size, 0, none⟩ = some (.string nm) := cl_off hv2 (by simp only []; omega) (cl_off hv1 (by simp only []; omega) (cl_off hv0 (by simp only []; omega) X_0))
  have n1 : v2.cell? ⟨w2.heap.size, 1, none⟩ = some (.int .i64 A) := cl_off hv2 (by simp only []; omega) (cl_off hv1 (by simp only []; omega) (cl_off hv0 (by simp only []; omega) X_1))
  have n2 : v2.cell? ⟨w2.heap.size, 2, none⟩ = some (.slice tb tn tc) := cl_off hv2 (by simp only []; omega) (cl_off hv1 (by simp only []; omega) (cl_off hv0 (by simp only []; omega) X_2))
  have k0 : v2.cell? ⟨w.heap.size, 0, none⟩ = some (.string nm) := by rw [hv2, hv1, hv0]; simp [go_sem, R_0, R_1, R_2]
  have k1 : v2.cell? ⟨w.heap.size, 1, none⟩ = some (.int .i64 A) := by rw [hv2, hv1, hv0]; simp [go_sem, R_0, R_1, R_2]
  have k2 : v2.cell? ⟨w.heap.size, 2, none⟩ = some (.slice tb tn tc) := by rw [hv2, hv1, hv0]; simp [go_sem, R_0, R_1, R_2]
  have j0 : v2.frozen? ⟨w.heap.size, 0, none⟩ = false := by rw [hv2, hv1, hv0]; simp [go_sem, R_f0, R_f1, R_f2]
  have j1 : v2.frozen? ⟨w.heap.size, 1, none⟩ = false := by rw [hv2, hv1, hv0]; simp [go_sem, R_f0, R_f1, R_f2]
  have j2 : v2.frozen? ⟨w.heap.size, 2, none⟩ = false := by rw [hv2, hv1, hv0]; simp [go_sem, R_f0, R_f1, R_f2]
  have hrl := (own_off (own_off (own_off ol hv0 (by simp only []; omega)) hv1 (by simp only []; omega)) hv2 (by simp only []; omega)).rd reads_Dl
  have hrt := (own_off (own_off (own_off ot hv0 (by simp only []; omega)) hv1 (by simp only []; omega)) hv2 (by simp only []; omega)).rd reads_T
  have zz : Below w.heap.size wd v2 := by
    rw [hv2, hv1, hv0]
    repeat (refine Below.setCell ?_ (by simp only []; omega) _)
    exact Below.refl _ _
  have HBZ := Lib.hid (hb9.trans zz)
  clear hv0 hv1 hv2
  refine hK9.out _ _ ⟨n0, n1, n2⟩ (fun hHeld => ?_)
  clear hK9 K9
  try simp only [Act.put, lgA, lgB, lgC, lgD, lgE, lgF]
  refine wpAnyH_done (by kernel_rfl) ?_ _
  refine NoPanic.normal ?_
  go_wp2_with fail
  refine bodyPost_ret (v := .tuple #[.slice lb ln lc, .agg #[.string nm, .int .i64 A, .slice tb tn tc]]) (by simp [results, Tryz.results15, go_sem, k0, k1, k2, j0, j1, j2]) rfl ⟨lb, ln, lc, ds, nm, A, tb, tn, tc, rows, rfl, hrl, hds, hrt, HBZ.out⟩

end Go.Proofs.YtpgfkjcekhifiaaGreatDoor
