/- Texts joined for one claim: Draw24. -/
import Derived.Test.YtpgfkjcekhifiaaGreatDoorQfcdce1be69
import Derived.Test.YtpgfkjcekhifiaaGreatDoorQ1fda2bf30f
import Derived.Test.YtpgfkjcekhifiaaGreatDoorQ155b982bd8
import Derived.Deep.RegionHeld3

namespace Go.Proofs.YtpgfkjcekhifiaaGreatDoor

open Go.RowKit

set_option linter.unusedVariables false

set_option linter.unusedSimpArgs false

set_option synthInstance.maxSize 2000

set_option synthInstance.maxHeartbeats 400000

theorem fmtDp_lenD (x : DDp) : (bs (fmtDp x)).size ≤ 5 := by
  rw [bs_size]
  by_cases h : okDp x = true
  · exact (dp_raw h).2.1
  · unfold fmtDp; rw [if_neg h]; simp

set_option maxRecDepth 100000 in
set_option maxHeartbeats 4000000 in
theorem drawParse_any (w : World) (ba : Option Addr) (bn bc : Nat) (hn : bn ≤ 2000000) (h : Bytes w w.heap.size ba bn) :
    Calls Tryz.prog 20 #[.slice ba bn bc] w fun e w' => ∃ s : ByteArray, e = .returned (.string s) ∧ s.size ≤ 1048576 ∧ Below w.heap.size w w' := by
  have hb0 : Below w.heap.size w w := Below.refl _ _
  go_enter Tryz.func20, Tryz.ntmps20
  go_wp2_with fail
  refine (l1New_any _ ba bn bc hn h).mono ?_
  rintro e w1 ⟨cb, rfl, HC, z1, hcb1, hcb2⟩
  have s2 := z1.size
  have hb2 := on hb0 z1
  clear h
  go_wp2_with fail
  have HC_o := HC
  clear HC
  refine (l12Dep_any _ cb ba bn bc HC_o (by omega)).mono ?_
  rintro e w3 ⟨nm, fb, fn, fc, t, x, rfl, oD, hxs, HC, z3⟩
  clear HC_o
  have s4 := z3.size
  have hb4 := hb2.trans ((z3.below (by omega)).mono (by omega))
  have hrx := oD.rd reads_Dp
  have hx4 : x.2.1.length ≤ 1048576 := by omega
  clear oD hxs
  go_wp2_with fail
  refine (fmtDp_spec _ x _ hrx hx4).mono ?_
  rintro e w5 ⟨rfl, z5⟩
  have s6 := z5.size
  have hb6 := on hb4 z5
  replace HC := HC.below' z5 (by omega)
  have hsz := fmtDp_lenD x
  obtain ⟨s, hs⟩ : ∃ q, bs (fmtDp x) = q := ⟨_, rfl⟩
  rw [hs] at hsz ⊢
  clear hs hrx hx4
  go_wp2_with fail
  have HC_o := HC
  clear HC
  refine (l1Below_any _ cb ba bn bc 4 (by omega) HC_o).mono ?_
  rintro e w7 ⟨u, rfl, hu0, hu1, hu2, HC, z7⟩
  clear HC_o
  have s8 := Nat.le_of_eq z7.size
  have s8' := Nat.le_of_eq z7.size.symm
  replace z7 := z7.turn
  have hb8 := hb6.trans ((z7.below (by omega)).mono (by omega))
  have hu : u = 0 ∨ u = 1 ∨ u = 2 ∨ u = 3 := by omega
  clear hu0 hu1 hu2
  rcases hu with rfl | rfl | rfl | rfl
  · go_wp2_with fail
    have HC_o := HC
    clear HC
    refine (l1Spoil_any _ cb ba bn bc HC_o (by omega) s (by omega)).mono ?_
    rintro e w9 ⟨s2, rfl, hs2, HC, z9⟩
    clear HC_o
    have s10 := z9.size
    have hb10 := hb8.trans ((z9.below (by omega)).mono (by omega))
    have HB9 := Lib.hid hb10
    clear HC
    go_wp2_with fail
    go_ret
    exact ⟨s2, rfl, by omega, HB9.out⟩
  · obtain ⟨w11, hw11⟩ : ∃ W, W = w7.alloc (.cells #[.string (ByteArray.mk #[]), .string (ByteArray.mk #[114, 62, 48]), .string (ByteArray.mk #[114, 48, 62, 49]), .string (ByteArray.mk #[114, 48, 62, 48]), .string (ByteArray.mk #[117, 49, 48, 62, 50]), .string (ByteArray.mk #[117, 48, 49, 62, 50]), .string (ByteArray.mk #[117, 48, 49, 50, 62, 50]), .string (ByteArray.mk #[114, 62]), .string (ByteArray.mk #[82, 48, 62, 49]), .string (ByteArray.mk #[114, 48, 60, 49])] 9) := ⟨_, rfl⟩
    have z11 : Below w7.heap.size w7 w11 := by rw [hw11]; exact (Below.refl _ _).alloc (Nat.le_refl _) _
    have s11 : w11.heap.size = w7.heap.size + 1 := by rw [hw11]; simp
    have hb11 := on hb8 z11
    replace HC := HC.below' z11 (by omega)
    have P_0 : w11.cell? ⟨w7.heap.size, 0, none⟩ = some (.string (ByteArray.mk #[])) := by rw [hw11]; exact box_cell (Below.refl _ _) rfl
    have P_1 : w11.cell? ⟨w7.heap.size, 1, none⟩ = some (.string (ByteArray.mk #[114, 62, 48])) := by rw [hw11]; exact box_cell (Below.refl _ _) rfl
    have P_2 : w11.cell? ⟨w7.heap.size, 2, none⟩ = some (.string (ByteArray.mk #[114, 48, 62, 49])) := by rw [hw11]; exact box_cell (Below.refl _ _) rfl
    have P_3 : w11.cell? ⟨w7.heap.size, 3, none⟩ = some (.string (ByteArray.mk #[114, 48, 62, 48])) := by rw [hw11]; exact box_cell (Below.refl _ _) rfl
    have P_4 : w11.cell? ⟨w7.heap.size, 4, none⟩ = some (.string (ByteArray.mk #[117, 49, 48, 62, 50])) := by rw [hw11]; exact box_cell (Below.refl _ _) rfl
    have P_5 : w11.cell? ⟨w7.heap.size, 5, none⟩ = some (.string (ByteArray.mk #[117, 48, 49, 62, 50])) := by rw [hw11]; exact box_cell (Below.refl _ _) rfl
    have P_6 : w11.cell? ⟨w7.heap.size, 6, none⟩ = some (.string (ByteArray.mk #[117, 48, 49, 50, 62, 50])) := by rw [hw11]; exact box_cell (Below.refl _ _) rfl
    have P_7 : w11.cell? ⟨w7.heap.size, 7, none⟩ = some (.string (ByteArray.mk #[114, 62])) := by rw [hw11]; exact box_cell (Below.refl _ _) rfl
    have P_8 : w11.cell? ⟨w7.heap.size, 8, none⟩ = some (.string (ByteArray.mk #[82, 48, 62, 49])) := by rw [hw11]; exact box_cell (Below.refl _ _) rfl
    have P_9 : w11.cell? ⟨w7.heap.size, 9, none⟩ = some (.string (ByteArray.mk #[114, 48, 60, 49])) := by rw [hw11]; exact box_cell (Below.refl _ _) rfl
    have raw11_P_0 := P_0
    have raw11_P_1 := P_1
    have raw11_P_2 := P_2
    have raw11_P_3 := P_3
    have raw11_P_4 := P_4
    have raw11_P_5 := P_5
    have raw11_P_6 := P_6
    have raw11_P_7 := P_7
    have raw11_P_8 := P_8
    have raw11_P_9 := P_9
    rw [hw11] at raw11_P_0 raw11_P_1 raw11_P_2 raw11_P_3 raw11_P_4 raw11_P_5 raw11_P_6 raw11_P_7 raw11_P_8 raw11_P_9
    have hN : ∀ i, i < 10 → ∃ s, s ∈ [ByteArray.mk #[], ByteArray.mk #[114, 62, 48], ByteArray.mk #[114, 48, 62, 49], ByteArray.mk #[114, 48, 62, 48], ByteArray.mk #[117, 49, 48, 62, 50], ByteArray.mk #[117, 48, 49, 62, 50], ByteArray.mk #[117, 48, 49, 50, 62, 50], ByteArray.mk #[114, 62], ByteArray.mk #[82, 48, 62, 49], ByteArray.mk #[114, 48, 60, 49]] ∧ w11.cell? ⟨w7.heap.size, i, none⟩ = some (.string s) := fun i hi => by
      rcases (by omega : i = 0 ∨ i = 1 ∨ i = 2 ∨ i = 3 ∨ i = 4 ∨ i = 5 ∨ i = 6 ∨ i = 7 ∨ i = 8 ∨ i = 9) with rfl | rfl | rfl | rfl | rfl | rfl | rfl | rfl | rfl | rfl
      · exact ⟨_, .head _, P_0⟩
      · exact ⟨_, .tail _ (.head _), P_1⟩
      · exact ⟨_, .tail _ (.tail _ (.head _)), P_2⟩
      · exact ⟨_, .tail _ (.tail _ (.tail _ (.head _))), P_3⟩
      · exact ⟨_, .tail _ (.tail _ (.tail _ (.tail _ (.head _)))), P_4⟩
      · exact ⟨_, .tail _ (.tail _ (.tail _ (.tail _ (.tail _ (.head _))))), P_5⟩
      · exact ⟨_, .tail _ (.tail _ (.tail _ (.tail _ (.tail _ (.tail _ (.head _)))))), P_6⟩
      · exact ⟨_, .tail _ (.tail _ (.tail _ (.tail _ (.tail _ (.tail _ (.tail _ (.head _))))))), P_7⟩
      · exact ⟨_, .tail _ (.tail _ (.tail _ (.tail _ (.tail _ (.tail _ (.tail _ (.tail _ (.head _)))))))), P_8⟩
      · exact ⟨_, .tail _ (.tail _ (.tail _ (.tail _ (.tail _ (.tail _ (.tail _ (.tail _ (.tail _ (.head _))))))))), P_9⟩
    clear P_0 P_1 P_2 P_3 P_4 P_5 P_6 P_7 P_8 P_9
    go_wp2_with fail
    rw [← hw11]
    clear hw11
    clear raw11_P_0 raw11_P_1 raw11_P_2 raw11_P_3 raw11_P_4 raw11_P_5 raw11_P_6 raw11_P_7 raw11_P_8 raw11_P_9
    have HC_o := HC
    clear HC
    refine (l1Pick_any _ cb ba bn bc _ 10 10 _ (by omega) (by omega) hN (by omega) HC_o).mono ?_
    rintro e w12 ⟨s2, rfl, hs2, HC, z12⟩
    clear HC_o
    have s13 := Nat.le_of_eq z12.size
    have s13' := Nat.le_of_eq z12.size.symm
    replace z12 := z12.turn
    have hb13 := hb11.trans ((z12.below (by omega)).mono (by omega))
    have hs3 : s2.size ≤ 10 := by
      simp only [List.mem_cons, List.not_mem_nil, or_false] at hs2
      rcases hs2 with rfl | rfl | rfl | rfl | rfl | rfl | rfl | rfl | rfl | rfl <;> decide
    have HB9 := Lib.hid hb13
    clear HC
    clear hN hs2
    go_wp2_with fail
    go_ret
    exact ⟨s2, rfl, by omega, HB9.out⟩
  · have HB9 := Lib.hid hb8
    clear HC
    go_wp2_with fail
    go_ret
    exact ⟨s, rfl, by omega, HB9.out⟩
  · have HB9 := Lib.hid hb8
    clear HC
    go_wp2_with fail
    go_ret
    exact ⟨s, rfl, by omega, HB9.out⟩

end Go.Proofs.YtpgfkjcekhifiaaGreatDoor
