/- Texts joined for one claim: LRef. -/
import Derived.Test.YtpgfkjcekhifiaaGreatQa10471a0a3
import Derived.Test.YtpgfkjcekhifiaaGreatQ1af94ef534
import Derived.Test.YtpgfkjcekhifiaaGreatQ94813783a4
import Derived.Test.YtpgfkjcekhifiaaGreatQ1182156d84
import Derived.Test.YtpgfkjcekhifiaaGreatQ53ae14c1bb
import Derived.Test.YtpgfkjcekhifiaaGreatQ07b6f18217
import Derived.Test.YtpgfkjcekhifiaaGreatQe74e6d6c2d
import Derived.Test.YtpgfkjcekhifiaaGreatQ52736f1836
import Derived.Deep.RegionHeld3
import Derived.Deep.DeepCutAuto
import Derived.Deep.LoopGhost
import Derived.BigQuiet

namespace Go.Proofs.YtpgfkjcekhifiaaGreat

open Go.RowKit

set_option linter.unusedVariables false

set_option linter.unusedSimpArgs false

set_option synthInstance.maxSize 2000

set_option synthInstance.maxHeartbeats 400000

theorem rI_openQ {w : World} {b : Option Addr} {n c : Nat} {xs : List Int} (h : rI.rep w [.slice b n c] xs) : n = xs.length ∧ Ints w b n xs := by
  obtain ⟨a, cap, e, h1, h2, h3⟩ := rI_open h
  injection e with e1 e2 e3
  subst e1 e2 e3
  exact ⟨rfl, h3⟩

set_option maxRecDepth 100000 in
set_option maxHeartbeats 16000000 in
theorem walk_FnReference (v0 : Value) (w : World) (h0 : kB_in w v0) :
    Calls Tryz.prog 3 #[v0] w fun e w' => e = .returned (.bool true) ∧ Below w.heap.size w w' := by
  obtain ⟨ba, bn, bc, rfl, hB⟩ := h0
  have hb0 : Below w.heap.size w w := Below.refl _ _
  go_enter Tryz.func3, Tryz.ntmps3
  go_wp2_with fail
  refine (big_any _ _ _ _).mono ?_
  rintro e w' ⟨rfl, rfl⟩
  by_cases hbig : 1048576 < bn
  · have e9 : decide (1048576 < bn) = true := by simpa using hbig
    rw [e9]
    go_wp2_with fail
    go_ret
    exact ⟨rfl, hb0⟩
  have e9 : decide (1048576 < bn) = false := by simpa using hbig
  rw [e9]
  clear e9
  have hbn : bn ≤ 2000000 := by omega
  clear hbig
  go_wp2_with fail
  refine (drawEval_any _ ba bn bc hbn hB).mono ?_
  rintro e w1 ⟨b, n, c, db, c0, qb, qn, qc, x, k, rfl, od, oq, hk64, z1⟩
  have s2 := z1.size
  have hb2 := on hb0 z1
  clear hB
  obtain ⟨w3, hw3⟩ : ∃ W, W = w1.alloc (.cells #[.slice b n c] 26) := ⟨_, rfl⟩
  have z3 : Below w1.heap.size w1 w3 := by rw [hw3]; exact (Below.refl _ _).alloc (Nat.le_refl _) _
  have s3 : w3.heap.size = w1.heap.size + 1 := by rw [hw3]; simp
  have hb3 := on hb2 z3
  replace od := od.below z3 (by omega)
  replace oq := oq.below z3 (by omega)
  have D_0 : w3.cell? ⟨w1.heap.size, 0, none⟩ = some (.slice b n c) := by rw [hw3]; exact box_cell (Below.refl _ _) rfl
  have raw3_D_0 := D_0
  rw [hw3] at raw3_D_0
  obtain ⟨w4, hw4⟩ : ∃ W, W = w3.alloc (.cells #[.int .i64 c0, .slice qb qn qc] 29) := ⟨_, rfl⟩
  have z4 : Below w3.heap.size w3 w4 := by rw [hw4]; exact (Below.refl _ _).alloc (Nat.le_refl _) _
  have s4 : w4.heap.size = w3.heap.size + 1 := by rw [hw4]; simp
  have hb4 := on hb3 z4
  replace od := od.below z4 (by omega)
  replace oq := oq.below z4 (by omega)
  replace D_0 := bxc z4 D_0
  have e4 : w3.heap.size = w1.heap.size + 1 := by omega
  have Q_0 : w4.cell? ⟨w3.heap.size, 0, none⟩ = some (.int .i64 c0) := by rw [hw4]; exact box_cell (Below.refl _ _) rfl
  have Q_1 : w4.cell? ⟨w3.heap.size, 1, none⟩ = some (.slice qb qn qc) := by rw [hw4]; exact box_cell (Below.refl _ _) rfl
  rw [e4] at Q_0 Q_1
  have raw4_D_0 := D_0
  have raw4_Q_0 := Q_0
  have raw4_Q_1 := Q_1
  rw [hw4, hw3] at raw4_D_0 raw4_Q_0 raw4_Q_1
  go_wp2_with fail
  rw [← hw3]
  rw [← hw4]
  clear hw4 hw3
  clear raw3_D_0 raw4_D_0 raw4_Q_0 raw4_Q_1
  obtain ⟨wq, rfl⟩ : ∃ W, W = w4 := ⟨_, rfl⟩
  have HD := Lib.hid (fun W (hW : Below wq.heap.size wq W) => rDb.mono od.rd hW)
  have HQ := Lib.hid (fun W (hW : Below wq.heap.size wq W) => rQ.mono (oq.rd reads_Q) hW)
  have HTQ := Lib.hid (rS_sl ((oQ_open oq).2.2.1.rd reads_As))
  clear od oq
  have hbq : Below wq.heap.size wq wq := Below.refl _ _
  obtain ⟨ok, hok⟩ : ∃ q, evalOk db x k = q := ⟨_, rfl⟩
  have HOK := Lib.hid hok
  refine (eval_impl _ _ db x k _ (HD.out _ hbq) (HQ.out _ hbq) hk64).mono ?_
  rintro e wa ⟨ua, rfl, oa, za⟩
  rw [hok]
  obtain ⟨vb, vn, vc, rb, rn, rc, rfl⟩ := oAn_form oa
  have s5 := za.size
  have hb5 := on hb4 za
  replace D_0 := bxc za D_0
  replace Q_0 := bxc za Q_0
  replace Q_1 := bxc za Q_1
  have hqa := za
  obtain ⟨w6, hw6⟩ : ∃ W, W = wa.alloc (.cells #[.slice vb vn vc, .slice rb rn rc] 35) := ⟨_, rfl⟩
  have z6 : Below wa.heap.size wa w6 := by rw [hw6]; exact (Below.refl _ _).alloc (Nat.le_refl _) _
  have s6 : w6.heap.size = wa.heap.size + 1 := by rw [hw6]; simp
  have hb6 := on hb5 z6
  have old6_D_0 := D_0
  have old6_Q_0 := Q_0
  have old6_Q_1 := Q_1
  replace D_0 := bxc z6 D_0
  replace Q_0 := bxc z6 Q_0
  replace Q_1 := bxc z6 Q_1
  replace oa := oa.below z6 (by omega)
  have A_0 : w6.cell? ⟨wa.heap.size, 0, none⟩ = some (.slice vb vn vc) := by rw [hw6]; exact box_cell (Below.refl _ _) rfl
  have A_1 : w6.cell? ⟨wa.heap.size, 1, none⟩ = some (.slice rb rn rc) := by rw [hw6]; exact box_cell (Below.refl _ _) rfl
  have raw6_D_0 := D_0
  have raw6_Q_0 := Q_0
  have raw6_Q_1 := Q_1
  have raw6_A_0 := A_0
  have raw6_A_1 := A_1
  rw [hw6] at raw6_D_0 raw6_Q_0 raw6_Q_1 raw6_A_0 raw6_A_1
  go_wp2_with fail
  rw [← hw6]
  clear hw6
  clear old6_D_0 old6_Q_0 old6_Q_1 raw6_D_0 raw6_Q_0 raw6_Q_1 raw6_A_0 raw6_A_1
  have hqA := on hqa z6
  refine (eval_spec _ _ db x k _ (HD.out _ hqA) (HQ.out _ hqA) hk64).mono ?_
  rintro e wx ⟨ux, rfl, ox, zx⟩
  rw [hok]
  clear hok
  obtain ⟨xvb, xvn, xvc, xrb, xrn, xrc, rfl⟩ := oAn_form ox
  have s7 := zx.size
  have hb7 := on hb6 zx
  replace D_0 := bxc zx D_0
  replace Q_0 := bxc zx Q_0
  replace Q_1 := bxc zx Q_1
  replace oa := oa.below zx (by omega)
  replace A_0 := bxc zx A_0
  replace A_1 := bxc zx A_1
  have hqx := on hqA zx
  obtain ⟨w8, hw8⟩ : ∃ W, W = wx.alloc (.cells #[.slice xvb xvn xvc, .slice xrb xrn xrc] 35) := ⟨_, rfl⟩
  have z8 : Below wx.heap.size wx w8 := by rw [hw8]; exact (Below.refl _ _).alloc (Nat.le_refl _) _
  have s8 : w8.heap.size = wx.heap.size + 1 := by rw [hw8]; simp
  have hb8 := on hb7 z8
  have old8_D_0 := D_0
  have old8_Q_0 := Q_0
  have old8_Q_1 := Q_1
  have old8_A_0 := A_0
  have old8_A_1 := A_1
  replace D_0 := bxc z8 D_0
  replace Q_0 := bxc z8 Q_0
  replace Q_1 := bxc z8 Q_1
  replace oa := oa.below z8 (by omega)
  replace A_0 := bxc z8 A_0
  replace A_1 := bxc z8 A_1
  replace ox := ox.below z8 (by omega)
  have X_0 : w8.cell? ⟨wx.heap.size, 0, none⟩ = some (.slice xvb xvn xvc) := by rw [hw8]; exact box_cell (Below.refl _ _) rfl
  have X_1 : w8.cell? ⟨wx.heap.size, 1, none⟩ = some (.slice xrb xrn xrc) := by rw [hw8]; exact box_cell (Below.refl _ _) rfl
  have raw8_D_0 := D_0
  have raw8_Q_0 := Q_0
  have raw8_Q_1 := Q_1
  have raw8_A_0 := A_0
  have raw8_A_1 := A_1
  have raw8_X_0 := X_0
  have raw8_X_1 := X_1
  rw [hw8] at raw8_D_0 raw8_Q_0 raw8_Q_1 raw8_A_0 raw8_A_1 raw8_X_0 raw8_X_1
  go_wp2_with fail
  rw [← hw8]
  clear hw8
  clear old8_D_0 old8_Q_0 old8_Q_1 old8_A_0 old8_A_1 raw8_D_0 raw8_Q_0 raw8_Q_1 raw8_A_0 raw8_A_1 raw8_X_0 raw8_X_1
  have hqX := on hqx z8
  have hneq : (ok != ok) = false := by cases ok <;> rfl
  obtain ⟨sz, hsz⟩ : ∃ q, subSize db x k = q := ⟨_, rfl⟩
  have hns : (sz != sz) = false := by simp
  have HSZ := Lib.hid hsz
  have hdr : Below w8.heap.size w8 w8.drew := (Below.refl _ _).drew
  refine wp_region_noPanic ?_
  refine wp_region_held_drew (S := (fun W => W.cell? ⟨w1.heap.size, 0, none⟩ = some (.slice b n c) ∧ W.cell? ⟨w1.heap.size + 1, 0, none⟩ = some (.int .i64 c0) ∧ W.cell? ⟨w1.heap.size + 1, 1, none⟩ = some (.slice qb qn qc) ∧ W.cell? ⟨wa.heap.size, 0, none⟩ = some (.slice vb vn vc) ∧ W.cell? ⟨wa.heap.size, 1, none⟩ = some (.slice rb rn rc) ∧ W.cell? ⟨wx.heap.size, 0, none⟩ = some (.slice xvb xvn xvc) ∧ W.cell? ⟨wx.heap.size, 1, none⟩ = some (.slice xrb xrn xrc))) (by kernel_rfl) ?hS9 (fun hHeld => ?_)
  case hS9 => exact ⟨D_0, Q_0, Q_1, A_0, A_1, X_0, X_1⟩
  refine wpAnyH_take (i := 0) (v := ?v0_10) rfl (by kernel_rfl) (by kernel_rfl) (by kernel_rfl) (fun _ _ _ h => h) (Or.inl ⟨by rfl, ?hy0_10⟩) (by assumption) ?rest0_10
  case hy0_10 => intro w hSw; (try dsimp only at hSw); go_simp; (try with_reducible rfl)
  try simp only [Act.put, lgA, lgB, lgC, lgD, lgE, lgF]
  refine wpAnyH_take (i := 1) (v := ?v1_11) rfl (by kernel_rfl) (by kernel_rfl) (by kernel_rfl) (fun _ _ _ h => h) (Or.inl ⟨by rfl, ?hy1_11⟩) (by assumption) ?rest1_11
  case hy1_11 => intro w hSw; (try dsimp only at hSw); go_simp; (try with_reducible rfl)
  try simp only [Act.put, lgA, lgB, lgC, lgD, lgE, lgF]
  refine wpAnyH_take (i := 2) (v := ?v2_12) rfl (by kernel_rfl) (by kernel_rfl) (by kernel_rfl) (fun _ _ _ h => h) (Or.inl ⟨by rfl, ?hy2_12⟩) (by assumption) ?rest2_12
  case hy2_12 => intro w hSw; (try dsimp only at hSw); go_simp; (try with_reducible rfl)
  try simp only [Act.put, lgA, lgB, lgC, lgD, lgE, lgF]
  refine wpAnyH_take (i := 3) (v := ?v3_13) rfl (by kernel_rfl) (by kernel_rfl) (by kernel_rfl) (fun _ _ _ h => h) (Or.inl ⟨by rfl, ?hy3_13⟩) (by assumption) ?rest3_13
  case hy3_13 => intro w hSw; (try dsimp only at hSw); go_simp; (try with_reducible rfl)
  try simp only [Act.put, lgA, lgB, lgC, lgD, lgE, lgF]
  refine wpAnyH_take (i := 4) (v := ?v4_14) rfl (by kernel_rfl) (by kernel_rfl) (by kernel_rfl) (fun _ _ _ h => h) (Or.inl ⟨by rfl, ?hy4_14⟩) (by assumption) ?rest4_14
  case hy4_14 => intro w hSw; (try dsimp only at hSw); go_simp; (try with_reducible rfl)
  try simp only [Act.put, lgA, lgB, lgC, lgD, lgE, lgF]
  refine wpAnyH_take (i := 5) (v := ?v5_15) rfl (by kernel_rfl) (by kernel_rfl) (by kernel_rfl) (fun _ _ _ h => h) (Or.inl ⟨by rfl, ?hy5_15⟩) (by assumption) ?rest5_15
  case hy5_15 => intro w hSw; (try dsimp only at hSw); go_simp; (try with_reducible rfl)
  try simp only [Act.put, lgA, lgB, lgC, lgD, lgE, lgF]
  refine wpAnyH_ready (rs := [6]) (by kernel_rfl) (by simp) ?_
  refine AllReadyH.cons rfl (fun K9 hK9 => ?_) AllReadyH.nil
  go_simp
  refine (equalAn_impl _ _ _ _ _ ((oa.below hdr (by omega)).rd reads_An) ((ox.below hdr (by omega)).rd reads_An)).mono ?_
  rintro e wA ⟨rfl, yy⟩
  have ywA : Below w8.heap.size w8 wA := on hdr yy
  have swA := ywA.size
  rw [show decide (evalM db x k = evalM db x k) = true by simp]
  clear yy
  refine hK9.out _ _ ⟨(ywA.cell (p := ⟨w1.heap.size, 0, none⟩) (by simp only []; omega)).trans D_0, (ywA.cell (p := ⟨w1.heap.size + 1, 0, none⟩) (by simp only []; omega)).trans Q_0, (ywA.cell (p := ⟨w1.heap.size + 1, 1, none⟩) (by simp only []; omega)).trans Q_1, (ywA.cell (p := ⟨wa.heap.size, 0, none⟩) (by simp only []; omega)).trans A_0, (ywA.cell (p := ⟨wa.heap.size, 1, none⟩) (by simp only []; omega)).trans A_1, (ywA.cell (p := ⟨wx.heap.size, 0, none⟩) (by simp only []; omega)).trans X_0, (ywA.cell (p := ⟨wx.heap.size, 1, none⟩) (by simp only []; omega)).trans X_1⟩ (fun hHeld => ?_)
  clear hK9 K9
  try simp only [Act.put, lgA, lgB, lgC, lgD, lgE, lgF]
  refine wpAnyH_take (i := 7) (v := ?v7_16) rfl (by kernel_rfl) (by kernel_rfl) (by kernel_rfl) (fun _ _ _ h => h) (Or.inl ⟨by rfl, ?hy7_16⟩) (by assumption) ?rest7_16
  case hy7_16 => intro w hSw; (try dsimp only at hSw); go_simp; (try with_reducible rfl)
  try simp only [Act.put, lgA, lgB, lgC, lgD, lgE, lgF]
  refine wpAnyH_take (i := 8) (v := ?v8_17) rfl (by kernel_rfl) (by kernel_rfl) (by kernel_rfl) (fun _ _ _ h => h) (Or.inl ⟨by rfl, ?hy8_17⟩) (by assumption) ?rest8_17
  case hy8_17 => intro w hSw; (try dsimp only at hSw); go_simp; (try with_reducible rfl)
  try simp only [Act.put, lgA, lgB, lgC, lgD, lgE, lgF]
  refine wpAnyH_take (i := 9) (v := ?v9_18) rfl (by kernel_rfl) (by kernel_rfl) (by kernel_rfl) (fun _ _ _ h => h) (Or.inl ⟨by rfl, ?hy9_18⟩) (by assumption) ?rest9_18
  case hy9_18 => intro w hSw; (try dsimp only at hSw); go_simp; (try with_reducible rfl)
  try simp only [Act.put, lgA, lgB, lgC, lgD, lgE, lgF]
  refine wpAnyH_take (i := 10) (v := ?v10_19) rfl (by kernel_rfl) (by kernel_rfl) (by kernel_rfl) (fun _ _ _ h => h) (Or.inl ⟨by rfl, ?hy10_19⟩) (by assumption) ?rest10_19
  case hy10_19 => intro w hSw; (try dsimp only at hSw); go_simp; (try with_reducible rfl)
  try simp only [Act.put, lgA, lgB, lgC, lgD, lgE, lgF]
  refine wpAnyH_take (i := 11) (v := ?v11_20) rfl (by kernel_rfl) (by kernel_rfl) (by kernel_rfl) (fun _ _ _ h => h) (Or.inl ⟨by rfl, ?hy11_20⟩) (by assumption) ?rest11_20
  case hy11_20 => intro w hSw; (try dsimp only at hSw); go_simp; (try with_reducible rfl)
  try simp only [Act.put, lgA, lgB, lgC, lgD, lgE, lgF]
  refine wpAnyH_take (i := 12) (v := ?v12_21) rfl (by kernel_rfl) (by kernel_rfl) (by kernel_rfl) (fun _ _ _ h => h) (Or.inl ⟨by rfl, ?hy12_21⟩) (by assumption) ?rest12_21
  case hy12_21 => intro w hSw; (try dsimp only at hSw); go_simp; (try with_reducible rfl)
  try simp only [Act.put, lgA, lgB, lgC, lgD, lgE, lgF]
  refine wpAnyH_take (i := 14) (v := ?v14_22) rfl (by kernel_rfl) (by kernel_rfl) (by kernel_rfl) (fun _ _ _ h => h) (Or.inl ⟨by rfl, ?hy14_22⟩) (by assumption) ?rest14_22
  case hy14_22 => intro w hSw; (try dsimp only at hSw); go_simp; (try with_reducible rfl)
  try simp only [Act.put, lgA, lgB, lgC, lgD, lgE, lgF]
  refine wpAnyH_take (i := 15) (v := ?v15_23) rfl (by kernel_rfl) (by kernel_rfl) (by kernel_rfl) (fun _ _ _ h => h) (Or.inl ⟨by rfl, ?hy15_23⟩) (by assumption) ?rest15_23
  case hy15_23 => intro w hSw; (try dsimp only at hSw); go_simp; (try with_reducible rfl)
  try simp only [Act.put, lgA, lgB, lgC, lgD, lgE, lgF]
  refine wpAnyH_take (i := 16) (v := ?v16_24) rfl (by kernel_rfl) (by kernel_rfl) (by kernel_rfl) (fun _ _ _ h => h) (Or.inl ⟨by rfl, ?hy16_24⟩) (by assumption) ?rest16_24
  case hy16_24 => intro w hSw; (try dsimp only at hSw); go_simp; (try with_reducible rfl)
  try simp only [Act.put, lgA, lgB, lgC, lgD, lgE, lgF]
  refine wpAnyH_ready (rs := [13]) (by kernel_rfl) (by simp) ?_
  refine AllReadyH.cons rfl (fun K9 hK9 => ?_) AllReadyH.nil
  go_simp
  refine (subSize_impl _ _ db x k _ (HD.out _ (on hqX ywA)) (HQ.out _ (on hqX ywA)) hk64).mono ?_
  rintro e wB ⟨rfl, yy⟩
  have ywB : Below w8.heap.size w8 wB := on ywA yy
  have swB := ywB.size
  rw [hsz]
  clear yy
  refine hK9.out _ _ ⟨(ywB.cell (p := ⟨w1.heap.size, 0, none⟩) (by simp only []; omega)).trans D_0, (ywB.cell (p := ⟨w1.heap.size + 1, 0, none⟩) (by simp only []; omega)).trans Q_0, (ywB.cell (p := ⟨w1.heap.size + 1, 1, none⟩) (by simp only []; omega)).trans Q_1, (ywB.cell (p := ⟨wa.heap.size, 0, none⟩) (by simp only []; omega)).trans A_0, (ywB.cell (p := ⟨wa.heap.size, 1, none⟩) (by simp only []; omega)).trans A_1, (ywB.cell (p := ⟨wx.heap.size, 0, none⟩) (by simp only []; omega)).trans X_0, (ywB.cell (p := ⟨wx.heap.size, 1, none⟩) (by simp only []; omega)).trans X_1⟩ (fun hHeld => ?_)
  clear hK9 K9
  try simp only [Act.put, lgA, lgB, lgC, lgD, lgE, lgF]
  refine wpAnyH_ready (rs := [17]) (by kernel_rfl) (by simp) ?_
  refine AllReadyH.cons rfl (fun K9 hK9 => ?_) AllReadyH.nil
  go_simp
  refine (subSize_spec _ _ db x k _ (HD.out _ (on hqX ywB)) (HQ.out _ (on hqX ywB)) hk64).mono ?_
  rintro e wC ⟨rfl, yy⟩
  have ywC : Below w8.heap.size w8 wC := on ywB yy
  have swC := ywC.size
  rw [hsz]
  clear yy
  refine hK9.out _ _ ⟨(ywC.cell (p := ⟨w1.heap.size, 0, none⟩) (by simp only []; omega)).trans D_0, (ywC.cell (p := ⟨w1.heap.size + 1, 0, none⟩) (by simp only []; omega)).trans Q_0, (ywC.cell (p := ⟨w1.heap.size + 1, 1, none⟩) (by simp only []; omega)).trans Q_1, (ywC.cell (p := ⟨wa.heap.size, 0, none⟩) (by simp only []; omega)).trans A_0, (ywC.cell (p := ⟨wa.heap.size, 1, none⟩) (by simp only []; omega)).trans A_1, (ywC.cell (p := ⟨wx.heap.size, 0, none⟩) (by simp only []; omega)).trans X_0, (ywC.cell (p := ⟨wx.heap.size, 1, none⟩) (by simp only []; omega)).trans X_1⟩ (fun hHeld => ?_)
  clear hK9 K9
  try simp only [Act.put, lgA, lgB, lgC, lgD, lgE, lgF]
  refine wpAnyH_take (i := 18) (v := ?v18_25) rfl (by kernel_rfl) (by kernel_rfl) (by kernel_rfl) (fun _ _ _ h => h) (Or.inl ⟨by rfl, ?hy18_25⟩) (by assumption) ?rest18_25
  case hy18_25 => intro w hSw; (try dsimp only at hSw); go_simp; (try with_reducible rfl)
  try simp only [Act.put, lgA, lgB, lgC, lgD, lgE, lgF]
  refine wpAnyH_take (i := 19) (v := ?v19_26) rfl (by kernel_rfl) (by kernel_rfl) (by kernel_rfl) (fun _ _ _ h => h) (Or.inl ⟨by rfl, ?hy19_26⟩) (by assumption) ?rest19_26
  case hy19_26 => intro w hSw; (try dsimp only at hSw); go_simp; (try with_reducible rfl)
  try simp only [Act.put, lgA, lgB, lgC, lgD, lgE, lgF]
  refine wpAnyH_done (by kernel_rfl) ?_ _
  refine NoPanic.normal ?_
  have s27 := ywC.size
  have hb27 := on hb8 ywC
  replace D_0 := bxc ywC D_0
  replace Q_0 := bxc ywC Q_0
  replace Q_1 := bxc ywC Q_1
  replace oa := oa.below ywC (by omega)
  replace A_0 := bxc ywC A_0
  replace A_1 := bxc ywC A_1
  replace ox := ox.below ywC (by omega)
  replace X_0 := bxc ywC X_0
  replace X_1 := bxc ywC X_1
  have hqC := on hqX ywC
  clear hsz hneq hns
  cases ok with
  | false =>
    have hs1 := subSize_no HOK.out
    go_wp2_with fail
    refine (subSize_impl _ _ db x k _ (HD.out _ hqC) (HQ.out _ hqC) hk64).mono ?_
    rintro e wz ⟨rfl, zz⟩
    have s28 := zz.size
    have hb28 := on hb27 zz
    replace D_0 := bxc zz D_0
    replace Q_0 := bxc zz Q_0
    replace Q_1 := bxc zz Q_1
    replace oa := oa.below zz (by omega)
    replace A_0 := bxc zz A_0
    replace A_1 := bxc zz A_1
    replace ox := ox.below zz (by omega)
    replace X_0 := bxc zz X_0
    replace X_1 := bxc zz X_1
    rw [hs1]
    go_wp2_with fail
    go_ret
    exact ⟨rfl, hb28⟩
  | true =>
    obtain ⟨V, R, href⟩ := refOk HOK.out
    have HREF := Lib.hid href
    have hbulk := (evalM_bulk db x k).2
    rw [href.is] at oa ox hbulk
    have hval := href.valid
    have hv4 := href.vlen
    clear href
    go_wp2_with fail
    have hdr : Below wC.heap.size wC wC.drew := (Below.refl _ _).drew
    refine wp_region_noPanic ?_
    refine wp_region_held_drew (S := (fun W => W.cell? ⟨wa.heap.size, 0, none⟩ = some (.slice vb vn vc) ∧ W.cell? ⟨wa.heap.size, 1, none⟩ = some (.slice rb rn rc) ∧ W.cell? ⟨wx.heap.size, 0, none⟩ = some (.slice xvb xvn xvc) ∧ W.cell? ⟨wx.heap.size, 1, none⟩ = some (.slice xrb xrn xrc))) (by kernel_rfl) ?hS29 (fun hHeld => ?_)
    case hS29 => exact ⟨A_0, A_1, X_0, X_1⟩
    refine wpAnyH_take (i := 0) (v := ?v0_30) rfl (by kernel_rfl) (by kernel_rfl) (by kernel_rfl) (fun _ _ _ h => h) (Or.inl ⟨by rfl, ?hy0_30⟩) (by assumption) ?rest0_30
    case hy0_30 => intro w hSw; (try dsimp only at hSw); go_simp; (try with_reducible rfl)
    try simp only [Act.put, lgA, lgB, lgC, lgD, lgE, lgF]
    refine wpAnyH_ready (rs := [1]) (by kernel_rfl) (by simp) ?_
    refine AllReadyH.cons rfl (fun K9 hK9 => ?_) AllReadyH.nil
    go_simp
    refine (validAn_impl _ (V, R) _ ((oa.below hdr (by omega)).rd reads_An)).mono ?_
    rintro e wE ⟨rfl, yy⟩
    have ywE : Below wC.heap.size wC wE := on hdr yy
    have swE := ywE.size
    rw [hval]
    clear yy
    refine hK9.out _ _ ⟨(ywE.cell (p := ⟨wa.heap.size, 0, none⟩) (by simp only []; omega)).trans A_0, (ywE.cell (p := ⟨wa.heap.size, 1, none⟩) (by simp only []; omega)).trans A_1, (ywE.cell (p := ⟨wx.heap.size, 0, none⟩) (by simp only []; omega)).trans X_0, (ywE.cell (p := ⟨wx.heap.size, 1, none⟩) (by simp only []; omega)).trans X_1⟩ (fun hHeld => ?_)
    clear hK9 K9
    try simp only [Act.put, lgA, lgB, lgC, lgD, lgE, lgF]
    refine wpAnyH_take (i := 2) (v := ?v2_31) rfl (by kernel_rfl) (by kernel_rfl) (by kernel_rfl) (fun _ _ _ h => h) (Or.inl ⟨by rfl, ?hy2_31⟩) (by assumption) ?rest2_31
    case hy2_31 => intro w hSw; (try dsimp only at hSw); go_simp; (try with_reducible rfl)
    try simp only [Act.put, lgA, lgB, lgC, lgD, lgE, lgF]
    refine wpAnyH_take (i := 3) (v := ?v3_32) rfl (by kernel_rfl) (by kernel_rfl) (by kernel_rfl) (fun _ _ _ h => h) (Or.inl ⟨by rfl, ?hy3_32⟩) (by assumption) ?rest3_32
    case hy3_32 => intro w hSw; (try dsimp only at hSw); go_simp; (try with_reducible rfl)
    try simp only [Act.put, lgA, lgB, lgC, lgD, lgE, lgF]
    refine wpAnyH_take (i := 4) (v := ?v4_33) rfl (by kernel_rfl) (by kernel_rfl) (by kernel_rfl) (fun _ _ _ h => h) (Or.inl ⟨by rfl, ?hy4_33⟩) (by assumption) ?rest4_33
    case hy4_33 => intro w hSw; (try dsimp only at hSw); go_simp; (try with_reducible rfl)
    try simp only [Act.put, lgA, lgB, lgC, lgD, lgE, lgF]
    refine wpAnyH_take (i := 6) (v := ?v6_34) rfl (by kernel_rfl) (by kernel_rfl) (by kernel_rfl) (fun _ _ _ h => h) (Or.inl ⟨by rfl, ?hy6_34⟩) (by assumption) ?rest6_34
    case hy6_34 => intro w hSw; (try dsimp only at hSw); go_simp; (try with_reducible rfl)
    try simp only [Act.put, lgA, lgB, lgC, lgD, lgE, lgF]
    refine wpAnyH_ready (rs := [5]) (by kernel_rfl) (by simp) ?_
    refine AllReadyH.cons rfl (fun K9 hK9 => ?_) AllReadyH.nil
    go_simp
    refine (fmtAn_impl _ (V, R) _ ((oa.below ywE (by omega)).rd reads_An) (by omega)).mono ?_
    rintro e wF ⟨rfl, yy⟩
    have ywF : Below wC.heap.size wC wF := on ywE yy
    have swF := ywF.size
    clear yy
    refine hK9.out _ _ ⟨(ywF.cell (p := ⟨wa.heap.size, 0, none⟩) (by simp only []; omega)).trans A_0, (ywF.cell (p := ⟨wa.heap.size, 1, none⟩) (by simp only []; omega)).trans A_1, (ywF.cell (p := ⟨wx.heap.size, 0, none⟩) (by simp only []; omega)).trans X_0, (ywF.cell (p := ⟨wx.heap.size, 1, none⟩) (by simp only []; omega)).trans X_1⟩ (fun hHeld => ?_)
    clear hK9 K9
    try simp only [Act.put, lgA, lgB, lgC, lgD, lgE, lgF]
    refine wpAnyH_ready (rs := [7]) (by kernel_rfl) (by simp) ?_
    refine AllReadyH.cons rfl (fun K9 hK9 => ?_) AllReadyH.nil
    go_simp
    refine (fmtAn_spec _ (V, R) _ ((ox.below ywF (by omega)).rd reads_An) (by omega)).mono ?_
    rintro e wG ⟨rfl, yy⟩
    have ywG : Below wC.heap.size wC wG := on ywF yy
    have swG := ywG.size
    clear yy
    refine hK9.out _ _ ⟨(ywG.cell (p := ⟨wa.heap.size, 0, none⟩) (by simp only []; omega)).trans A_0, (ywG.cell (p := ⟨wa.heap.size, 1, none⟩) (by simp only []; omega)).trans A_1, (ywG.cell (p := ⟨wx.heap.size, 0, none⟩) (by simp only []; omega)).trans X_0, (ywG.cell (p := ⟨wx.heap.size, 1, none⟩) (by simp only []; omega)).trans X_1⟩ (fun hHeld => ?_)
    clear hK9 K9
    try simp only [Act.put, lgA, lgB, lgC, lgD, lgE, lgF]
    refine wpAnyH_take (i := 8) (v := ?v8_35) rfl (by kernel_rfl) (by kernel_rfl) (by kernel_rfl) (fun _ _ _ h => h) (Or.inl ⟨by rfl, ?hy8_35⟩) (by assumption) ?rest8_35
    case hy8_35 => intro w hSw; (try dsimp only at hSw); go_simp; (try with_reducible rfl)
    try simp only [Act.put, lgA, lgB, lgC, lgD, lgE, lgF]
    refine wpAnyH_take (i := 9) (v := ?v9_36) rfl (by kernel_rfl) (by kernel_rfl) (by kernel_rfl) (fun _ _ _ h => h) (Or.inl ⟨by rfl, ?hy9_36⟩) (by assumption) ?rest9_36
    case hy9_36 => intro w hSw; (try dsimp only at hSw); go_simp; (try with_reducible rfl)
    try simp only [Act.put, lgA, lgB, lgC, lgD, lgE, lgF]
    refine wpAnyH_done (by kernel_rfl) ?_ _
    refine NoPanic.normal ?_
    have s37 := ywG.size
    have hb37 := on hb27 ywG
    replace D_0 := bxc ywG D_0
    replace Q_0 := bxc ywG Q_0
    replace Q_1 := bxc ywG Q_1
    replace oa := oa.below ywG (by omega)
    replace A_0 := bxc ywG A_0
    replace A_1 := bxc ywG A_1
    replace ox := ox.below ywG (by omega)
    replace X_0 := bxc ywG X_0
    replace X_1 := bxc ywG X_1
    have hqG := on hqC ywG
    clear hval hbulk HSZ
    clear ox X_0 X_1
    go_wp2_with fail
    refine (maskAtoms_spec k _ hk64).mono ?_
    rintro e wl0 ⟨lb, ln, lc, rfl, ol, zl⟩
    have il := ol.ints
    have hln := il.len
    have HAT := Lib.hid (fun v hv => HREF.out.atom v hv)
    have HHE := Lib.hid (fun p a h1 h2 => HREF.out.here p a h1 h2)
    have HRW := Lib.hid (fun z hz => HREF.out.row z hz)
    obtain ⟨ML, hML⟩ : ∃ q, maskAtoms k = q := ⟨_, rfl⟩
    rw [hML] at il hln HAT HHE
    subst hln
    clear ol hML
    have s38 := zl.size
    have hb38 := on hb37 zl
    replace D_0 := bxc zl D_0
    replace Q_0 := bxc zl Q_0
    replace Q_1 := bxc zl Q_1
    replace oa := oa.below zl (by omega)
    replace A_0 := bxc zl A_0
    replace A_1 := bxc zl A_1
    have hqL := on hqG zl
    go_wp2_with fail
    obtain ⟨wl, rfl⟩ : ∃ W, W = wl0 := ⟨_, rfl⟩
    have tQ := HTQ.out.below hqL
    have hMls := il.small
    have hlq := tQ.len
    have hsq := tQ.small
    obtain ⟨b0v, n0v, c0v, b1v, n1v, c1v, eAn, g0, g1⟩ := rAn_open (oa.rd reads_An)
    simp only [List.cons.injEq, and_true, Value.slice.injEq] at eAn
    obtain ⟨⟨e1v, e2v, e3v⟩, e4v, e5v, e6v⟩ := eAn
    subst e1v e2v e3v e4v e5v e6v
    obtain ⟨hvn, iV⟩ := rI_openQ g0
    simp only at hvn iV
    subst hvn
    have tR := rS_sl g1
    have hlr := tR.len
    have hsr := tR.small
    simp only at tR hlr
    clear g0 g1
    have hbl := hb38
    have key : (w1.heap.size < wl.heap.size ∧ w1.heap.size + 1 < wl.heap.size ∧ wa.heap.size < wl.heap.size) ∧ w.heap.size ≤ wl.heap.size := by omega
    obtain ⟨⟨key1, key2, key3⟩, key4⟩ := key
    try clear hb38
    try clear s38
    try clear zl
    try clear hqG
    try clear hb37
    try clear s37
    try clear swG
    try clear ywG
    try clear swF
    try clear ywF
    try clear swE
    try clear ywE
    try clear hbulk
    try clear hb28
    try clear s28
    try clear zz
    try clear hqC
    try clear hb27
    try clear s27
    try clear swC
    try clear ywC
    try clear swB
    try clear ywB
    try clear swA
    try clear ywA
    try clear yy
    try clear hqX
    try clear hb8
    try clear s8
    try clear z8
    try clear hqx
    try clear hb7
    try clear s7
    try clear zx
    try clear hqA
    try clear hb6
    try clear s6
    try clear z6
    try clear hqa
    try clear hb5
    try clear s5
    try clear za
    try clear hbq
    try clear e4
    try clear hb4
    try clear s4
    try clear z4
    try clear hb3
    try clear s3
    try clear z3
    try clear hb2
    try clear s2
    try clear z1
    try clear hbn
    try clear e9
    try clear hb0
    have HTQ2 := Lib.hid tQ
    have HTR := Lib.hid tR
    clear tQ tR
    go_loopw [11] (fun i wr => ∃ j : Nat, j ≤ rn ∧ j ≤ 20 ∧ i = .int .i64 (j : Int) ∧ Below wl.heap.size wl wr) (fun i _ => 20 - (intOf i).toNat)
    case atStart => exact ⟨0, Nat.zero_le _, by omega, rfl, Below.refl _ _⟩
    case round =>
      obtain ⟨i, hi, hi20, rfl, hdi⟩ := hrel
      obtain ⟨wi, rfl⟩ : ∃ W, W = wr := ⟨_, rfl⟩
      have si := hdi.size
      have ai0 := bxc hdi A_0
      have ai1 := bxc hdi A_1
      by_cases hir : i < rn ∧ i < 20
      · obtain ⟨hir1, hir2⟩ := hir
        have hiI : (i : Int) < (rn : Int) := by omega
        have hiJ : (i : Int) < 20 := by omega
        obtain ⟨z, hz⟩ : ∃ z, R[i]? = some z := ⟨_, List.getElem?_eq_getElem (by omega)⟩
        have hzm := List.mem_of_getElem? hz
        have HZ := Lib.hid hz
        clear hz
        go_wp2_with fail
        go_loopw [12] (fun i wr => ∃ j : Nat, j ≤ ML.length ∧ i = .int .i64 (j : Int) ∧ Below wl.heap.size wl wr) (fun i _ => ML.length - (intOf i).toNat)
        case atStart => exact ⟨0, Nat.zero_le _, rfl, hdi⟩
        case round =>
          obtain ⟨kk, hkk, rfl, hdk⟩ := hrel
          obtain ⟨wk, rfl⟩ : ∃ W, W = wr := ⟨_, rfl⟩
          have sk := hdk.size
          by_cases hlt : kk < ML.length
          · obtain ⟨b1, o1, v, rfl, c1, hv0, _, _⟩ := il.get hlt
            have hvm : v ∈ ML := by have := has_yes (by omega) hv0.out; simpa [has] using this
            obtain ⟨p, hvp, hpx⟩ := HAT.out v hvm
            subst hvp
            have hpq : p < qn := by omega
            obtain ⟨b2, o2, cs, at0, rfl, hxa, hra, hca⟩ := HTQ2.out.at hpq
            obtain ⟨ha3, hsome, hvt, hrows⟩ := HHE.out p at0 hvm hxa.out
            have hpick := hrows z hzm
            obtain ⟨ab, an, ac, rfl, hs2, gv⟩ := rA_open hra
            obtain ⟨han, iA⟩ := rI_openQ gv
            subst han
            obtain ⟨nm, av⟩ := at0
            simp only at ha3 hsome hvt hpick hs2 iA hca
            have d0 := bxc hdk D_0
            have q1 := bxc hdk Q_1
            have l1 := (hdk.cell (p := ⟨b1, o1 + kk, none⟩) (cell_lt c1)).trans c1
            have hb1 := cell_lt c1
            have e0w : wl.cell? ⟨b2, o2 + p * 2, none⟩ = some (.string nm) := by have h9 : wl.cell? ⟨b2, o2 + (p * 2 + 0), none⟩ = _ := hca 0 _ rfl; simpa using h9
            have e1w : wl.cell? ⟨b2, o2 + p * 2 + 1, none⟩ = some (.slice ab av.length ac) := by have h9 : wl.cell? ⟨b2, o2 + (p * 2 + 1), none⟩ = _ := hca 1 _ rfl; rw [← Nat.add_assoc] at h9; exact h9
            have hb2 := cell_lt e0w
            simp only [] at hb1 hb2
            have e0 := bxc hdk e0w
            have e1 := bxc hdk e1w
            have hkI : (kk : Int) < (ML.length : Int) := by omega
            have hpI : (p : Int) < (qn : Int) := by omega
            have hqk := on hqL hdk
            have HLK := Lib.hid (fun W (hW : Below wq.heap.size wq W) => lookS_any _ db nm W (HD.out W hW))
            clear hca hra gv hxa hv0 hvm hrows
            go_wp2_with fail
            go_cut [13, 14] (fun t13 t14 wx => ∃ (TB tn tc : Nat) (tb : Option Addr), t13 = .pointer (some ⟨TB, 0, none⟩) ∧ t14 = .bool true ∧ wx.cell? ⟨TB, 0, none⟩ = some (.string (lookT (look db nm)).1) ∧ wx.cell? ⟨TB, 1, none⟩ = some (.int .i64 (lookT (look db nm)).2.1) ∧ wx.cell? ⟨TB, 2, none⟩ = some (.slice tb tn tc) ∧ rT.rep wx [.string (lookT (look db nm)).1, .int .i64 (lookT (look db nm)).2.1, .slice tb tn tc] (lookT (look db nm)) ∧ Below wk.heap.size wk wx ∧ TB < wx.heap.size)
            case first =>
              have hdr : Below wk.heap.size wk wk.drew := (Below.refl _ _).drew
              refine wp_region_noPanic ?_
              refine wp_region_held_drew (S := (fun W => W.cell? ⟨w1.heap.size, 0, none⟩ = some (.slice b n c) ∧ W.cell? ⟨w1.heap.size + 1, 1, none⟩ = some (.slice (some ⟨b2, o2, none⟩) qn qc) ∧ W.cell? ⟨b1, o1 + kk, none⟩ = some (.int .i64 (p : Int)) ∧ W.cell? ⟨b2, o2 + p * 2, none⟩ = some (.string nm))) (by kernel_rfl) ?hS39 (fun hHeld => ?_)
              case hS39 => exact ⟨d0, q1, l1, e0⟩
              refine wpAnyH_take (i := 0) (v := ?v0_40) rfl (by kernel_rfl) (by kernel_rfl) (by kernel_rfl) (fun _ _ _ h => h) (Or.inl ⟨by rfl, ?hy0_40⟩) (by assumption) ?rest0_40
              case hy0_40 => intro w hSw; (try dsimp only at hSw); go_simp; (try with_reducible rfl)
              try simp only [Act.put, lgA, lgB, lgC, lgD, lgE, lgF]
              refine wpAnyH_take (i := 1) (v := ?v1_41) rfl (by kernel_rfl) (by kernel_rfl) (by kernel_rfl) (fun _ _ _ h => h) (Or.inl ⟨by rfl, ?hy1_41⟩) (by assumption) ?rest1_41
              case hy1_41 => intro w hSw; (try dsimp only at hSw); go_simp; (try with_reducible rfl)
              try simp only [Act.put, lgA, lgB, lgC, lgD, lgE, lgF]
              refine wpAnyH_take (i := 2) (v := ?v2_42) rfl (by kernel_rfl) (by kernel_rfl) (by kernel_rfl) (fun _ _ _ h => h) (Or.inl ⟨by rfl, ?hy2_42⟩) (by assumption) ?rest2_42
              case hy2_42 => intro w hSw; (try dsimp only at hSw); go_simp; (try with_reducible rfl)
              try simp only [Act.put, lgA, lgB, lgC, lgD, lgE, lgF]
              refine wpAnyH_take (i := 3) (v := ?v3_43) rfl (by kernel_rfl) (by kernel_rfl) (by kernel_rfl) (fun _ _ _ h => h) (Or.inl ⟨by rfl, ?hy3_43⟩) (by assumption) ?rest3_43
              case hy3_43 => intro w hSw; (try dsimp only at hSw); go_simp; (try with_reducible rfl)
              try simp only [Act.put, lgA, lgB, lgC, lgD, lgE, lgF]
              refine wpAnyH_take (i := 4) (v := ?v4_44) rfl (by kernel_rfl) (by kernel_rfl) (by kernel_rfl) (fun _ _ _ h => h) (Or.inl ⟨by rfl, ?hy4_44⟩) (by assumption) ?rest4_44
              case hy4_44 => intro w hSw; (try dsimp only at hSw); go_simp; (try with_reducible rfl)
              try simp only [Act.put, lgA, lgB, lgC, lgD, lgE, lgF]
              refine wpAnyH_take (i := 5) (v := ?v5_45) rfl (by kernel_rfl) (by kernel_rfl) (by kernel_rfl) (fun _ _ _ h => h) (Or.inl ⟨by rfl, ?hy5_45⟩) (by assumption) ?rest5_45
              case hy5_45 => intro w hSw; (try dsimp only at hSw); go_simp; (try with_reducible rfl)
              try simp only [Act.put, lgA, lgB, lgC, lgD, lgE, lgF]
              refine wpAnyH_take (i := 6) (v := ?v6_46) rfl (by kernel_rfl) (by kernel_rfl) (by kernel_rfl) (fun _ _ _ h => h) (Or.inl ⟨by rfl, ?hy6_46⟩) (by assumption) ?rest6_46
              case hy6_46 => intro w hSw; (try dsimp only at hSw); go_simp; (try with_reducible rfl)
              try simp only [Act.put, lgA, lgB, lgC, lgD, lgE, lgF]
              refine wpAnyH_take (i := 7) (v := ?v7_47) rfl (by kernel_rfl) (by kernel_rfl) (by kernel_rfl) (fun _ _ _ h => h) (Or.inl ⟨by rfl, ?hy7_47⟩) (by assumption) ?rest7_47
              case hy7_47 => intro w hSw; (try dsimp only at hSw); go_simp; (try with_reducible rfl)
              try simp only [Act.put, lgA, lgB, lgC, lgD, lgE, lgF]
              refine wpAnyH_take (i := 8) (v := ?v8_48) rfl (by kernel_rfl) (by kernel_rfl) (by kernel_rfl) (fun _ _ _ h => h) (Or.inl ⟨by rfl, ?hy8_48⟩) (by assumption) ?rest8_48
              case hy8_48 => intro w hSw; (try dsimp only at hSw); go_simp; (try with_reducible rfl)
              try simp only [Act.put, lgA, lgB, lgC, lgD, lgE, lgF]
              refine wpAnyH_take (i := 9) (v := ?v9_49) rfl (by kernel_rfl) (by kernel_rfl) (by kernel_rfl) (fun _ _ _ h => h) (Or.inl ⟨by rfl, ?hy9_49⟩) (by assumption) ?rest9_49
              case hy9_49 => intro w hSw; (try dsimp only at hSw); go_simp; (try with_reducible rfl)
              try simp only [Act.put, lgA, lgB, lgC, lgD, lgE, lgF]
              refine wpAnyH_ready (rs := [10, 14]) (by kernel_rfl) (by simp) ?_
              refine AllReadyH.cons rfl (fun K9 hK9 => ?_) (AllReadyH.cons rfl (fun K9 hK9 => ?_) AllReadyH.nil)
              · skip
                go_simp
                refine (HLK.out _ (on hqk hdr)).mono ?_
                rintro e wD ⟨tb, tn, tc, rfl, oT, yy⟩
                rw [hsome]
                have ywD : Below wk.heap.size wk wD := on hdr yy
                have swD := yy.size
                have swD2 := ywD.size
                refine hK9.out _ _ ⟨(ywD.cell (p := ⟨w1.heap.size, 0, none⟩) (by simp only []; omega)).trans d0, (ywD.cell (p := ⟨w1.heap.size + 1, 1, none⟩) (by simp only []; omega)).trans q1, (ywD.cell (p := ⟨b1, o1 + kk, none⟩) (by simp only []; omega)).trans l1, (ywD.cell (p := ⟨b2, o2 + p * 2, none⟩) (by simp only []; omega)).trans e0⟩ (fun hHeld => ?_)
                clear hK9 K9
                try simp only [Act.put, lgA, lgB, lgC, lgD, lgE, lgF]
                refine wpAnyH_take (i := 11) (v := ?v11_50) rfl (by kernel_rfl) (by kernel_rfl) (by kernel_rfl) (fun _ _ _ h => h) (Or.inl ⟨by rfl, ?hy11_50⟩) (by assumption) ?rest11_50
                case hy11_50 => intro w hSw; (try dsimp only at hSw); go_simp; (try with_reducible rfl)
                try simp only [Act.put, lgA, lgB, lgC, lgD, lgE, lgF]
                refine wpAnyH_take (i := 12) (v := ?v12_51) rfl (by kernel_rfl) (by kernel_rfl) (by kernel_rfl) (fun _ _ _ h => h) (Or.inl ⟨by rfl, ?hy12_51⟩) (by assumption) ?rest12_51
                case hy12_51 => intro w hSw; (try dsimp only at hSw); go_simp; (try with_reducible rfl)
                try simp only [Act.put, lgA, lgB, lgC, lgD, lgE, lgF]
                refine wpAnyH_take (i := 13) (v := ?v13_52) rfl (by kernel_rfl) (by kernel_rfl) (by kernel_rfl) (fun _ _ _ h => h) (Or.inl ⟨by rfl, ?hy13_52⟩) (by assumption) ?rest13_52
                case hy13_52 => intro w hSw; (try dsimp only at hSw); go_simp; (try with_reducible rfl)
                try simp only [Act.put, lgA, lgB, lgC, lgD, lgE, lgF]
                refine wpAnyH_ready (rs := [14]) (by kernel_rfl) (by simp) ?_
                refine AllReadyH.cons rfl (fun K9 hK9 => ?_) AllReadyH.nil
                go_simp
                obtain ⟨wX, hX⟩ : ∃ W, W = wD.alloc (.cells #[.string (ByteArray.mk #[]), .int .i64 0, .slice none 0 0] 44) := ⟨_, rfl⟩
                rw [← hX]
                have n_0 : wX.cell? ⟨wD.heap.size, 0, none⟩ = some (.string (ByteArray.mk #[])) := by rw [hX]; show (World.alloc wD _).cell? ⟨wD.heap.size, 0, none⟩ = _; exact box_cell (Below.refl _ _) rfl
                have n_f0 : wX.frozen? ⟨wD.heap.size, 0, none⟩ = false := by rw [hX]; show (World.alloc wD _).frozen? ⟨wD.heap.size, 0, none⟩ = _; exact box_frozen (Below.refl _ _)
                have n_1 : wX.cell? ⟨wD.heap.size, 1, none⟩ = some (.int .i64 0) := by rw [hX]; show (World.alloc wD _).cell? ⟨wD.heap.size, 1, none⟩ = _; exact box_cell (Below.refl _ _) rfl
                have n_f1 : wX.frozen? ⟨wD.heap.size, 1, none⟩ = false := by rw [hX]; show (World.alloc wD _).frozen? ⟨wD.heap.size, 1, none⟩ = _; exact box_frozen (Below.refl _ _)
                have n_2 : wX.cell? ⟨wD.heap.size, 2, none⟩ = some (.slice none 0 0) := by rw [hX]; show (World.alloc wD _).cell? ⟨wD.heap.size, 2, none⟩ = _; exact box_cell (Below.refl _ _) rfl
                have n_f2 : wX.frozen? ⟨wD.heap.size, 2, none⟩ = false := by rw [hX]; show (World.alloc wD _).frozen? ⟨wD.heap.size, 2, none⟩ = _; exact box_frozen (Below.refl _ _)
                have zX : Below wD.heap.size wD wX := by rw [hX]; exact (Below.refl _ _).alloc (Nat.le_refl _) _
                have sX : wX.heap.size = wD.heap.size + 1 := by rw [hX]; simp
                clear hX
                have yX : Below wk.heap.size wk wX := on ywD zX
                have oT2 := oT.below zX (by omega)
                refine hK9.out _ _ ⟨(yX.cell (p := ⟨w1.heap.size, 0, none⟩) (by simp only []; omega)).trans d0, (yX.cell (p := ⟨w1.heap.size + 1, 1, none⟩) (by simp only []; omega)).trans q1, (yX.cell (p := ⟨b1, o1 + kk, none⟩) (by simp only []; omega)).trans l1, (yX.cell (p := ⟨b2, o2 + p * 2, none⟩) (by simp only []; omega)).trans e0⟩ (fun hHeld => ?_)
                clear hK9 K9
                try simp only [Act.put, lgA, lgB, lgC, lgD, lgE, lgF]
                refine wpAnyH_ready (rs := [15]) (by kernel_rfl) (by simp) ?_
                refine AllReadyH.cons rfl (fun K9 hK9 => ?_) AllReadyH.nil
                go_simp
                obtain ⟨w0, hw0⟩ : ∃ W, W = wX.setCell ⟨wD.heap.size, 0, none⟩ (.string (lookT (look db nm)).1) := ⟨_, rfl⟩
                obtain ⟨w1q, hw1q⟩ : ∃ W, W = w0.setCell ⟨wD.heap.size, 1, none⟩ (.int .i64 (lookT (look db nm)).2.1) := ⟨_, rfl⟩
                obtain ⟨wF, hwF⟩ : ∃ W, W = w1q.setCell ⟨wD.heap.size, 2, none⟩ (.slice tb tn tc) := ⟨_, rfl⟩
                rw [← hw0, ← hw1q, ← hwF]
                have zF : Below wk.heap.size wX wF := by
                  rw [hwF, hw1q, hw0]
                  repeat (refine Below.setCell ?_ (by simp only []; omega) _)
                  exact Below.refl _ _
                have f_0 : wF.cell? ⟨wD.heap.size, 0, none⟩ = some (.string (lookT (look db nm)).1) := by rw [hwF, hw1q, hw0]; simp [go_sem, n_0, n_1, n_2]
                have f_1 : wF.cell? ⟨wD.heap.size, 1, none⟩ = some (.int .i64 (lookT (look db nm)).2.1) := by rw [hwF, hw1q, hw0]; simp [go_sem, n_0, n_1, n_2]
                have f_2 : wF.cell? ⟨wD.heap.size, 2, none⟩ = some (.slice tb tn tc) := by rw [hwF, hw1q, hw0]; simp [go_sem, n_0, n_1, n_2]
                have sF : wF.heap.size = wX.heap.size := by rw [hwF, hw1q, hw0]; simp [World.setCell]
                have oF := own_off (own_off (own_off (oT2) hw0 (by simp only []; omega)) hw1q (by simp only []; omega)) hwF (by simp only []; omega)
                have rF := oF.rd reads_T
                have yF : Below wk.heap.size wk wF := yX.trans zF
                clear hwF hw1q hw0 oF oT n_0 n_1 n_2 n_f0 n_f1 n_f2
                refine hK9.out _ _ ⟨(yF.cell (p := ⟨w1.heap.size, 0, none⟩) (by simp only []; omega)).trans d0, (yF.cell (p := ⟨w1.heap.size + 1, 1, none⟩) (by simp only []; omega)).trans q1, (yF.cell (p := ⟨b1, o1 + kk, none⟩) (by simp only []; omega)).trans l1, (yF.cell (p := ⟨b2, o2 + p * 2, none⟩) (by simp only []; omega)).trans e0⟩ (fun hHeld => ?_)
                clear hK9 K9
                try simp only [Act.put, lgA, lgB, lgC, lgD, lgE, lgF]
                refine wpAnyH_take (i := 16) (v := ?v16_53) rfl (by kernel_rfl) (by kernel_rfl) (by kernel_rfl) (fun _ _ _ h => h) (Or.inl ⟨by rfl, ?hy16_53⟩) (by assumption) ?rest16_53
                case hy16_53 => intro w hSw; (try dsimp only at hSw); go_simp; (try with_reducible rfl)
                try simp only [Act.put, lgA, lgB, lgC, lgD, lgE, lgF]
                refine wpAnyH_done (by kernel_rfl) ?_ _
                refine NoPanic.normal ?_
                go_wp2_with fail
                go_meet
                case rel => exact ⟨wD.heap.size, tn, tc, tb, rfl, rfl, f_0, f_1, f_2, rF, yF, by omega⟩
              · skip
                go_simp
                obtain ⟨wX, hX⟩ : ∃ W, W = (wk.alloc (.cells #[.string (ByteArray.mk #[]), .int .i64 0, .slice none 0 0] 44)).drew := ⟨_, rfl⟩
                rw [← hX]
                have n_0 : wX.cell? ⟨wk.heap.size, 0, none⟩ = some (.string (ByteArray.mk #[])) := by rw [hX]; show (World.alloc wk _).cell? ⟨wk.heap.size, 0, none⟩ = _; exact box_cell (Below.refl _ _) rfl
                have n_f0 : wX.frozen? ⟨wk.heap.size, 0, none⟩ = false := by rw [hX]; show (World.alloc wk _).frozen? ⟨wk.heap.size, 0, none⟩ = _; exact box_frozen (Below.refl _ _)
                have n_1 : wX.cell? ⟨wk.heap.size, 1, none⟩ = some (.int .i64 0) := by rw [hX]; show (World.alloc wk _).cell? ⟨wk.heap.size, 1, none⟩ = _; exact box_cell (Below.refl _ _) rfl
                have n_f1 : wX.frozen? ⟨wk.heap.size, 1, none⟩ = false := by rw [hX]; show (World.alloc wk _).frozen? ⟨wk.heap.size, 1, none⟩ = _; exact box_frozen (Below.refl _ _)
                have n_2 : wX.cell? ⟨wk.heap.size, 2, none⟩ = some (.slice none 0 0) := by rw [hX]; show (World.alloc wk _).cell? ⟨wk.heap.size, 2, none⟩ = _; exact box_cell (Below.refl _ _) rfl
                have n_f2 : wX.frozen? ⟨wk.heap.size, 2, none⟩ = false := by rw [hX]; show (World.alloc wk _).frozen? ⟨wk.heap.size, 2, none⟩ = _; exact box_frozen (Below.refl _ _)
                have zX : Below wk.heap.size wk wX := by rw [hX]; exact ((Below.refl _ _).alloc (Nat.le_refl _) _).drew
                have sX : wX.heap.size = wk.heap.size + 1 := by rw [hX]; simp
                clear hX
                have yX : Below wk.heap.size wk wX := zX
                refine hK9.out _ _ ⟨(yX.cell (p := ⟨w1.heap.size, 0, none⟩) (by simp only []; omega)).trans d0, (yX.cell (p := ⟨w1.heap.size + 1, 1, none⟩) (by simp only []; omega)).trans q1, (yX.cell (p := ⟨b1, o1 + kk, none⟩) (by simp only []; omega)).trans l1, (yX.cell (p := ⟨b2, o2 + p * 2, none⟩) (by simp only []; omega)).trans e0⟩ (fun hHeld => ?_)
                clear hK9 K9
                try simp only [Act.put, lgA, lgB, lgC, lgD, lgE, lgF]
                refine wpAnyH_ready (rs := [10]) (by kernel_rfl) (by simp) ?_
                refine AllReadyH.cons rfl (fun K9 hK9 => ?_) AllReadyH.nil
                go_simp
                refine (HLK.out _ (on hqk yX)).mono ?_
                rintro e wD ⟨tb, tn, tc, rfl, oT, yy⟩
                rw [hsome]
                have ywD : Below wk.heap.size wk wD := on yX yy
                have swD := yy.size
                have swD2 := ywD.size
                replace n_0 := bxc yy n_0
                replace n_f0 := bxf yy n_f0
                replace n_1 := bxc yy n_1
                replace n_f1 := bxf yy n_f1
                replace n_2 := bxc yy n_2
                replace n_f2 := bxf yy n_f2
                refine hK9.out _ _ ⟨(ywD.cell (p := ⟨w1.heap.size, 0, none⟩) (by simp only []; omega)).trans d0, (ywD.cell (p := ⟨w1.heap.size + 1, 1, none⟩) (by simp only []; omega)).trans q1, (ywD.cell (p := ⟨b1, o1 + kk, none⟩) (by simp only []; omega)).trans l1, (ywD.cell (p := ⟨b2, o2 + p * 2, none⟩) (by simp only []; omega)).trans e0⟩ (fun hHeld => ?_)
                clear hK9 K9
                try simp only [Act.put, lgA, lgB, lgC, lgD, lgE, lgF]
                refine wpAnyH_take (i := 11) (v := ?v11_54) rfl (by kernel_rfl) (by kernel_rfl) (by kernel_rfl) (fun _ _ _ h => h) (Or.inl ⟨by rfl, ?hy11_54⟩) (by assumption) ?rest11_54
                case hy11_54 => intro w hSw; (try dsimp only at hSw); go_simp; (try with_reducible rfl)
                try simp only [Act.put, lgA, lgB, lgC, lgD, lgE, lgF]
                refine wpAnyH_take (i := 12) (v := ?v12_55) rfl (by kernel_rfl) (by kernel_rfl) (by kernel_rfl) (fun _ _ _ h => h) (Or.inl ⟨by rfl, ?hy12_55⟩) (by assumption) ?rest12_55
                case hy12_55 => intro w hSw; (try dsimp only at hSw); go_simp; (try with_reducible rfl)
                try simp only [Act.put, lgA, lgB, lgC, lgD, lgE, lgF]
                refine wpAnyH_take (i := 13) (v := ?v13_56) rfl (by kernel_rfl) (by kernel_rfl) (by kernel_rfl) (fun _ _ _ h => h) (Or.inl ⟨by rfl, ?hy13_56⟩) (by assumption) ?rest13_56
                case hy13_56 => intro w hSw; (try dsimp only at hSw); go_simp; (try with_reducible rfl)
                try simp only [Act.put, lgA, lgB, lgC, lgD, lgE, lgF]
                refine wpAnyH_ready (rs := [15]) (by kernel_rfl) (by simp) ?_
                refine AllReadyH.cons rfl (fun K9 hK9 => ?_) AllReadyH.nil
                go_simp
                obtain ⟨w0, hw0⟩ : ∃ W, W = wD.setCell ⟨wk.heap.size, 0, none⟩ (.string (lookT (look db nm)).1) := ⟨_, rfl⟩
                obtain ⟨w1q, hw1q⟩ : ∃ W, W = w0.setCell ⟨wk.heap.size, 1, none⟩ (.int .i64 (lookT (look db nm)).2.1) := ⟨_, rfl⟩
                obtain ⟨wF, hwF⟩ : ∃ W, W = w1q.setCell ⟨wk.heap.size, 2, none⟩ (.slice tb tn tc) := ⟨_, rfl⟩
                rw [← hw0, ← hw1q, ← hwF]
                have zF : Below wk.heap.size wD wF := by
                  rw [hwF, hw1q, hw0]
                  repeat (refine Below.setCell ?_ (by simp only []; omega) _)
                  exact Below.refl _ _
                have f_0 : wF.cell? ⟨wk.heap.size, 0, none⟩ = some (.string (lookT (look db nm)).1) := by rw [hwF, hw1q, hw0]; simp [go_sem, n_0, n_1, n_2]
                have f_1 : wF.cell? ⟨wk.heap.size, 1, none⟩ = some (.int .i64 (lookT (look db nm)).2.1) := by rw [hwF, hw1q, hw0]; simp [go_sem, n_0, n_1, n_2]
                have f_2 : wF.cell? ⟨wk.heap.size, 2, none⟩ = some (.slice tb tn tc) := by rw [hwF, hw1q, hw0]; simp [go_sem, n_0, n_1, n_2]
                have sF : wF.heap.size = wD.heap.size := by rw [hwF, hw1q, hw0]; simp [World.setCell]
                have oF := own_off (own_off (own_off (oT) hw0 (by simp only []; omega)) hw1q (by simp only []; omega)) hwF (by simp only []; omega)
                have rF := oF.rd reads_T
                have yF : Below wk.heap.size wk wF := ywD.trans zF
                clear hwF hw1q hw0 oF oT n_0 n_1 n_2 n_f0 n_f1 n_f2
                refine hK9.out _ _ ⟨(yF.cell (p := ⟨w1.heap.size, 0, none⟩) (by simp only []; omega)).trans d0, (yF.cell (p := ⟨w1.heap.size + 1, 1, none⟩) (by simp only []; omega)).trans q1, (yF.cell (p := ⟨b1, o1 + kk, none⟩) (by simp only []; omega)).trans l1, (yF.cell (p := ⟨b2, o2 + p * 2, none⟩) (by simp only []; omega)).trans e0⟩ (fun hHeld => ?_)
                clear hK9 K9
                try simp only [Act.put, lgA, lgB, lgC, lgD, lgE, lgF]
                refine wpAnyH_take (i := 16) (v := ?v16_57) rfl (by kernel_rfl) (by kernel_rfl) (by kernel_rfl) (fun _ _ _ h => h) (Or.inl ⟨by rfl, ?hy16_57⟩) (by assumption) ?rest16_57
                case hy16_57 => intro w hSw; (try dsimp only at hSw); go_simp; (try with_reducible rfl)
                try simp only [Act.put, lgA, lgB, lgC, lgD, lgE, lgF]
                refine wpAnyH_done (by kernel_rfl) ?_ _
                refine NoPanic.normal ?_
                go_wp2_with fail
                go_meet
                case rel => exact ⟨wk.heap.size, tn, tc, tb, rfl, rfl, f_0, f_1, f_2, rF, yF, by omega⟩
            case rest =>
              obtain ⟨TB, tn, tc, tb, rfl, rfl, T_0, T_1, T_2, rT9, hbT, hTB⟩ := hcut
              obtain ⟨wt, rfl⟩ : ∃ W, W = wc := ⟨_, rfl⟩
              have sT := hbT.size
              have hlT : Below wl.heap.size wl wt := on hdk hbT
              obtain ⟨b3, o3, cs3, z3, rfl, hz3, hrz, hcz⟩ := HTR.out.at hir1
              have ez : z3 = z := Option.some.inj (hz3.out.symm.trans HZ.out)
              subst ez
              obtain ⟨za0, zn0, zc0, rfl⟩ := rI_form hrz
              obtain ⟨hzn, iz⟩ := rI_openQ hrz
              subst hzn
              have hzl := HRW.out z3 hzm
              have zcw : wl.cell? ⟨b3, o3 + i, none⟩ = some (.slice za0 z3.length zc0) := by have h9 : wl.cell? ⟨b3, o3 + (i * 1 + 0), none⟩ = _ := hcz 0 _ rfl; simpa using h9
              have hb3 := cell_lt zcw
              simp only [] at hb3
              have q1t := bxc hbT q1
              have l1t := bxc hbT l1
              have e1t := bxc hbT e1
              have a0t := bxc hlT A_0
              have a1t := bxc hlT A_1
              have zct := bxc hlT zcw
              have HIA := Lib.hid (iA.below hlT)
              have HIV := Lib.hid (iV.below hlT)
              have HIZ := Lib.hid (iz.below hlT)
              have hba : Below wt.heap.size wt (wt.alloc (.cells #[] 3)) := (Below.refl _ _).alloc (Nat.le_refl _) _
              have HO0 : Hid (Own oI wt.heap.size (wt.alloc (.cells #[] 3)).heap.size (wt.alloc (.cells #[] 3)) [.slice (some ⟨wt.heap.size, 0, none⟩) 0 0] (pickR V z3 (av.take 0))) := Lib.hid ((own_empty (Nat.le_refl wt.heap.size)).own)
              clear hrz hcz hz3 d0 q1 l1 e0 e1 HLK hqk ai0 ai1 iA iz
              have hvl4 : V.length ≤ 4 := hv4
              go_wp2_with fail
              go_loopw [15, 16] (fun r j wr => ∃ (jj n9 c9 : Nat) (b9 : Option Addr), jj ≤ av.length ∧ j = .int .i64 (jj : Int) ∧ r = .slice b9 n9 c9 ∧ Hid (Own oI wt.heap.size wr.heap.size wr [.slice b9 n9 c9] (pickR V z3 (av.take jj))) ∧ Below wt.heap.size wt wr) (fun _ j _ => av.length - (intOf j).toNat)
              case atStart => exact ⟨0, 0, 0, _, Nat.zero_le _, rfl, rfl, HO0, hba⟩
              case round =>
                clear HO0 hba
                obtain ⟨jj, n9, c9, b9, hjj, rfl, rfl, HO, hbj⟩ := hrel
                obtain ⟨wj, rfl⟩ : ∃ W, W = wr := ⟨_, rfl⟩
                have sj := hbj.size
                have q1j := bxc hbj q1t
                have l1j := bxc hbj l1t
                have e1j := bxc hbj e1t
                by_cases hjv : jj < av.length
                · have hjI : (jj : Int) < (av.length : Int) := by omega
                  go_wp2_with fail
                  go_quiet (fail)
                  go_wp2_with fail
                  go_loopw [15, 17] (fun r e wr => ∃ (ee n9 c9 : Nat) (b9 : Option Addr), ee ≤ V.length ∧ e = .int .i64 (ee : Int) ∧ r = .slice b9 n9 c9 ∧ Hid (Own oI wt.heap.size wr.heap.size wr [.slice b9 n9 c9] (pickR V z3 (av.take jj) ++ pickE V z3 (av.getD jj 0) ee)) ∧ Below wt.heap.size wt wr) (fun _ e _ => V.length - (intOf e).toNat)
                  case atStart => exact ⟨0, n9, c9, b9, Nat.zero_le _, rfl, rfl, Lib.hid (by rw [pickE_zero, List.append_nil]; exact HO.out.below (Drew.below ⟨_, rfl⟩ _) (Nat.le_refl _)), on hbj (Drew.below ⟨_, rfl⟩ _)⟩
                  case round =>
                    clear HO q1j l1j e1j
                    obtain ⟨ee, n8, c8, b8, hee, rfl, rfl, HO8, hbe⟩ := hrel
                    obtain ⟨we, rfl⟩ : ∃ W, W = wr := ⟨_, rfl⟩
                    have se := hbe.size
                    have a0e := bxc hbe a0t
                    by_cases hev : ee < V.length
                    · have heI : (ee : Int) < (V.length : Int) := by omega
                      obtain ⟨b4, o4, u4, rfl, c4, hu4, _, _⟩ := iV.get hev
                      obtain ⟨b5, o5, y5, rfl, c5, hy5, _, _⟩ := HIA.out.get hjv
                      obtain ⟨b6, o6, t6, rfl, c6, ht6, ht6a, ht6b⟩ := HIZ.out.get (show ee < z3.length by omega)
                      have hzI : (ee : Int) < (z3.length : Int) := by omega
                      have c4e := (hbe.cell (p := ⟨b4, o4 + ee, none⟩) (by have h9 := cell_lt c4; simp only [] at h9 ⊢; omega)).trans ((hlT.cell (p := ⟨b4, o4 + ee, none⟩) (cell_lt c4)).trans c4)
                      have c5e := (hbe.cell (p := ⟨b5, o5 + jj, none⟩) (cell_lt c5)).trans c5
                      have c6e := (hbe.cell (p := ⟨b6, o6 + ee, none⟩) (cell_lt c6)).trans c6
                      have q1e := bxc hbe q1t
                      have l1e := bxc hbe l1t
                      have e1e := bxc hbe e1t
                      have a1e := bxc hbe a1t
                      have zce := bxc hbe zct
                      have hpl := pickR_len V z3 (av.take jj)
                      have hel := pickE_len V z3 (av.getD jj 0) ee
                      rw [List.length_take] at hpl
                      have hmul : min jj av.length * V.length ≤ 3 * 4 := Nat.mul_le_mul (by omega) (by omega)
                      by_cases huy : u4 = y5
                      · subst huy
                        have heq : (u4 == u4) = true := by simp
                        go_wp2_with fail
                        go_quiet (fail)
                        obtain ⟨wQ, hwQ⟩ : ∃ W, W = we.drewN nq := ⟨_, rfl⟩
                        rw [← hwQ]
                        have zQ : Below we.heap.size we wQ := by rw [hwQ]; exact Drew.below ⟨nq, rfl⟩ _
                        have sQ : wQ.heap.size = we.heap.size := by rw [hwQ]; rfl
                        clear hwQ
                        have a1q := bxc zQ a1e
                        have zcq := bxc zQ zce
                        have c6q := (zQ.cell (p := ⟨b6, o6 + ee, none⟩) (by have h9 := cell_lt c6e; simp only [] at h9 ⊢; omega)).trans c6e
                        have oQ := HO8.out.below zQ (Nat.le_refl _)
                        obtain ⟨na, nn, nc, wn, hrn, on9, hbn, hzn⟩ := own_num 32 oQ (r := t6) ⟨ht6a, ht6b⟩ (by omega) (by omega) (by rw [List.length_append]; omega) rfl
                        have HON : Hid (Own oI wt.heap.size wn.heap.size wn [.slice na nn nc] (pickR V z3 (av.take jj) ++ pickE V z3 (av.getD jj 0) (ee + 1))) := Lib.hid (by
                          rw [pickE_yes (hu4.out.trans hy5.out.symm), ht6.out, ← List.append_assoc]; exact on9)
                        have HBN := Lib.hid ((on hbe zQ).trans hbn)
                        clear on9 oQ hbn zQ sQ c4e c5e c6e q1e l1e e1e a1e zce a0e c4 c5 c6
                        go_wp2_with (at_builtin; refine wpList_app_run hrn rfl rfl rfl rfl rfl ?_)
                        go_roundw
                        case rel => exact ⟨ee + 1, nn, nc, na, by omega, by go_num, rfl, HON, HBN.out⟩
                        case measure => simp [intOf]; omega
                      · have heq : (u4 == y5) = false := by rw [beq_eq_false_iff_ne]; exact huy
                        have HPN : Hid (pickE V z3 (av.getD jj 0) (ee + 1) = pickE V z3 (av.getD jj 0) ee) := Lib.hid (pickE_no (fun h9 => huy (hu4.out.symm.trans (h9.trans hy5.out))))
                        go_wp2_with fail
                        go_quiet (fail)
                        go_wp2_with fail
                        go_roundw
                        case rel => exact ⟨ee + 1, n8, c8, b8, by omega, by go_num, rfl, Lib.hid (by rw [HPN.out]; exact HO8.out.below (Drew.below ⟨_, rfl⟩ _) (Nat.le_refl _)), on hbe (Drew.below ⟨_, rfl⟩ _)⟩
                        case measure => simp [intOf]; omega
                    · have heI : ¬ ((ee : Int) < (V.length : Int)) := by omega
                      obtain rfl : ee = V.length := by omega
                      have HPR : Hid (Own oI wt.heap.size we.heap.size we [.slice b8 n8 c8] (pickR V z3 (av.take (jj + 1)))) := Lib.hid (by rw [pickR_at hjv]; exact HO8.out)
                      go_wp2_with fail
                      go_roundw
                      case rel => exact ⟨jj + 1, n8, c8, b8, by omega, by go_num, rfl, HPR, hbe⟩
                      case measure => simp [intOf]; omega
                · have hjI : ¬ ((jj : Int) < (av.length : Int)) := by omega
                  obtain rfl : jj = av.length := by omega
                  have t0j := bxc hbj T_0
                  have t1j := bxc hbj T_1
                  have t2j := bxc hbj T_2
                  go_wp2_with fail
                  go_quiet (fail)
                  obtain ⟨wQ, hwQ⟩ : ∃ W, W = wj.drewN nq := ⟨_, rfl⟩
                  rw [← hwQ]
                  have zQ : Below wj.heap.size wj wQ := by rw [hwQ]; exact Drew.below ⟨nq, rfl⟩ _
                  have sQ : wQ.heap.size = wj.heap.size := by rw [hwQ]; rfl
                  clear hwQ
                  replace t0j := bxc zQ t0j
                  replace t1j := bxc zQ t1j
                  replace t2j := bxc zQ t2j
                  have hbQ := on hbj zQ
                  have oQ := HO.out.below zQ (Nat.le_refl _)
                  rw [List.take_of_length_le (Nat.le_refl _)] at oQ
                  obtain ⟨hn9, irow⟩ := rI_openQ (oQ.rd reads_I)
                  have HCT := Lib.hid (containsRow_any [.string (lookT (look db nm)).1, .int .i64 (lookT (look db nm)).2.1, .slice tb tn tc] (lookT (look db nm)) b9 n9 c9 (pickR V z3 av) wQ (rT.mono rT9 hbQ) irow hvt hpick)
                  clear oQ irow hn9 q1j l1j e1j
                  go_wp2_with fail
                  refine HCT.out.mono ?_
                  rintro e wR ⟨rfl, zR⟩
                  have hlR : Below wl.heap.size wl wR := on (on hlT hbQ) zR
                  go_wp2_with fail
                  go_roundw
                  case rel => exact ⟨kk + 1, by omega, by go_num, hlR⟩
                  case measure => simp [intOf]; omega
          · have hkI : ¬ ((kk : Int) < (ML.length : Int)) := by omega
            go_wp2_with fail
            go_roundw
            case rel => exact ⟨i + 1, by omega, by omega, by go_num, hdk⟩
            case measure => simp [intOf]; omega
      · replace D_0 := bxc hdi D_0
        replace Q_0 := bxc hdi Q_0
        replace Q_1 := bxc hdi Q_1
        have hbi : Below w.heap.size w wi := on hbl hdi
        have hqi := on hqL hdi
        have hfull := HREF.out.full
        clear A_0 A_1 oa il
        clear HTR HTQ2 HAT HHE HRW iV hbl hdi hqL
        rcases (by omega : ¬ ((i : Int) < (rn : Int)) ∨ ((i : Int) < (rn : Int) ∧ ¬ ((i : Int) < 20))) with hx1 | ⟨hx1, hx2⟩
        · skip
          go_wp2_with fail
          refine (sizes_impl _ _ db x _ (HD.out _ hqi) (HQ.out _ hqi)).mono ?_
          rintro e ws ⟨us, rfl, os, zs⟩
          obtain ⟨TS, hTS⟩ : ∃ q, trueSizes db x = q := ⟨_, rfl⟩
          have HTS := Lib.hid hTS
          rw [hTS] at os
          clear hTS
          obtain ⟨sb, sn, sc, rfl⟩ := oI_form1 os
          obtain ⟨hsn, is⟩ := rI_openQ (os.rd reads_I)
          subst hsn
          clear os
          have s58 := zs.size
          have hb58 := on hbi zs
          replace D_0 := bxc zs D_0
          replace Q_0 := bxc zs Q_0
          replace Q_1 := bxc zs Q_1
          have hqs := on hqi zs
          go_wp2_with fail
          refine (evalQ_impl _ _ db x _ (HD.out _ hqs) (HQ.out _ hqs)).mono ?_
          rintro e wf ⟨uf, rfl, of, zf⟩
          rw [hfull]
          obtain ⟨fvb, fvn, fvc, frb, frn, frc, rfl⟩ := oAn_form of
          have s59 := zf.size
          have hb59 := on hb58 zf
          replace D_0 := bxc zf D_0
          replace Q_0 := bxc zf Q_0
          replace Q_1 := bxc zf Q_1
          replace is := is.below zf
          have hqf := on hqs zf
          obtain ⟨b0f, n0f, c0f, b1f, n1f, c1f, eF, gf0, gf1⟩ := rAn_open (of.rd reads_An)
          simp only [List.cons.injEq, and_true, Value.slice.injEq] at eF
          obtain ⟨⟨e1f, e2f, e3f⟩, e4f, e5f, e6f⟩ := eF
          subst e1f e2f e3f e4f e5f e6f
          have hfl := (rS_sl gf1).len
          have hsub := subSize_yes hfull
          rw [hfl] at hsub
          clear gf0 gf1 of hfl
          obtain ⟨w60, hw60⟩ : ∃ W, W = wf.alloc (.cells #[.slice fvb fvn fvc, .slice frb frn frc] 35) := ⟨_, rfl⟩
          have z60 : Below wf.heap.size wf w60 := by rw [hw60]; exact (Below.refl _ _).alloc (Nat.le_refl _) _
          have s60 : w60.heap.size = wf.heap.size + 1 := by rw [hw60]; simp
          have hb60 := on hb59 z60
          have old60_D_0 := D_0
          have old60_Q_0 := Q_0
          have old60_Q_1 := Q_1
          replace D_0 := bxc z60 D_0
          replace Q_0 := bxc z60 Q_0
          replace Q_1 := bxc z60 Q_1
          replace is := is.below z60
          have F_0 : w60.cell? ⟨wf.heap.size, 0, none⟩ = some (.slice fvb fvn fvc) := by rw [hw60]; exact box_cell (Below.refl _ _) rfl
          have F_1 : w60.cell? ⟨wf.heap.size, 1, none⟩ = some (.slice frb frn frc) := by rw [hw60]; exact box_cell (Below.refl _ _) rfl
          have raw60_D_0 := D_0
          have raw60_Q_0 := Q_0
          have raw60_Q_1 := Q_1
          have raw60_F_0 := F_0
          have raw60_F_1 := F_1
          rw [hw60] at raw60_D_0 raw60_Q_0 raw60_Q_1 raw60_F_0 raw60_F_1
          go_wp2_with fail
          rw [← hw60]
          clear hw60
          clear old60_D_0 old60_Q_0 old60_Q_1 raw60_D_0 raw60_Q_0 raw60_Q_1 raw60_F_0 raw60_F_1
          have hqF := on hqf z60
          have hdr : Below w60.heap.size w60 w60.drew := (Below.refl _ _).drew
          refine wp_region_noPanic ?_
          refine wp_region_held_drew (S := (fun W => W.cell? ⟨w1.heap.size, 0, none⟩ = some (.slice b n c) ∧ W.cell? ⟨w1.heap.size + 1, 0, none⟩ = some (.int .i64 c0) ∧ W.cell? ⟨w1.heap.size + 1, 1, none⟩ = some (.slice qb qn qc) ∧ W.cell? ⟨wf.heap.size, 1, none⟩ = some (.slice frb frn frc))) (by kernel_rfl) ?hS61 (fun hHeld => ?_)
          case hS61 => exact ⟨D_0, Q_0, Q_1, F_1⟩
          refine wpAnyH_take (i := 0) (v := ?v0_62) rfl (by kernel_rfl) (by kernel_rfl) (by kernel_rfl) (fun _ _ _ h => h) (Or.inl ⟨by rfl, ?hy0_62⟩) (by assumption) ?rest0_62
          case hy0_62 => intro w hSw; (try dsimp only at hSw); go_simp; (try with_reducible rfl)
          try simp only [Act.put, lgA, lgB, lgC, lgD, lgE, lgF]
          refine wpAnyH_take (i := 1) (v := ?v1_63) rfl (by kernel_rfl) (by kernel_rfl) (by kernel_rfl) (fun _ _ _ h => h) (Or.inl ⟨by rfl, ?hy1_63⟩) (by assumption) ?rest1_63
          case hy1_63 => intro w hSw; (try dsimp only at hSw); go_simp; (try with_reducible rfl)
          try simp only [Act.put, lgA, lgB, lgC, lgD, lgE, lgF]
          refine wpAnyH_take (i := 2) (v := ?v2_64) rfl (by kernel_rfl) (by kernel_rfl) (by kernel_rfl) (fun _ _ _ h => h) (Or.inl ⟨by rfl, ?hy2_64⟩) (by assumption) ?rest2_64
          case hy2_64 => intro w hSw; (try dsimp only at hSw); go_simp; (try with_reducible rfl)
          try simp only [Act.put, lgA, lgB, lgC, lgD, lgE, lgF]
          refine wpAnyH_ready (rs := [3]) (by kernel_rfl) (by simp) ?_
          refine AllReadyH.cons rfl (fun K9 hK9 => ?_) AllReadyH.nil
          go_simp
          refine (sizes_spec _ _ db x _ (HD.out _ (on hqF hdr)) (HQ.out _ (on hqF hdr))).mono ?_
          rintro e wM ⟨u2, rfl, o2, yy⟩
          have ywM : Below w60.heap.size w60 wM := on hdr yy
          have swM := ywM.size
          rw [HTS.out] at o2
          obtain ⟨tb, tn, tc, rfl⟩ := oI_form1 o2
          obtain ⟨htn, it⟩ := rI_openQ (o2.rd reads_I)
          subst htn
          clear o2
          clear yy
          refine hK9.out _ _ ⟨(ywM.cell (p := ⟨w1.heap.size, 0, none⟩) (by simp only []; omega)).trans D_0, (ywM.cell (p := ⟨w1.heap.size + 1, 0, none⟩) (by simp only []; omega)).trans Q_0, (ywM.cell (p := ⟨w1.heap.size + 1, 1, none⟩) (by simp only []; omega)).trans Q_1, (ywM.cell (p := ⟨wf.heap.size, 1, none⟩) (by simp only []; omega)).trans F_1⟩ (fun hHeld => ?_)
          clear hK9 K9
          try simp only [Act.put, lgA, lgB, lgC, lgD, lgE, lgF]
          refine wpAnyH_ready (rs := [4]) (by kernel_rfl) (by simp) ?_
          refine AllReadyH.cons rfl (fun K9 hK9 => ?_) AllReadyH.nil
          go_simp
          refine (sameInts_eq _ _ _ _ _ TS _ (is.below ywM) it).mono ?_
          rintro e wN ⟨rfl, yy⟩
          replace yy := yy.below wM.heap.size
          have ywN : Below w60.heap.size w60 wN := on ywM yy
          have swN := ywN.size
          clear yy
          refine hK9.out _ _ ⟨(ywN.cell (p := ⟨w1.heap.size, 0, none⟩) (by simp only []; omega)).trans D_0, (ywN.cell (p := ⟨w1.heap.size + 1, 0, none⟩) (by simp only []; omega)).trans Q_0, (ywN.cell (p := ⟨w1.heap.size + 1, 1, none⟩) (by simp only []; omega)).trans Q_1, (ywN.cell (p := ⟨wf.heap.size, 1, none⟩) (by simp only []; omega)).trans F_1⟩ (fun hHeld => ?_)
          clear hK9 K9
          try simp only [Act.put, lgA, lgB, lgC, lgD, lgE, lgF]
          refine wpAnyH_take (i := 5) (v := ?v5_65) rfl (by kernel_rfl) (by kernel_rfl) (by kernel_rfl) (fun _ _ _ h => h) (Or.inl ⟨by rfl, ?hy5_65⟩) (by assumption) ?rest5_65
          case hy5_65 => intro w hSw; (try dsimp only at hSw); go_simp; (try with_reducible rfl)
          try simp only [Act.put, lgA, lgB, lgC, lgD, lgE, lgF]
          refine wpAnyH_take (i := 6) (v := ?v6_66) rfl (by kernel_rfl) (by kernel_rfl) (by kernel_rfl) (fun _ _ _ h => h) (Or.inl ⟨by rfl, ?hy6_66⟩) (by assumption) ?rest6_66
          case hy6_66 => intro w hSw; (try dsimp only at hSw); go_simp; (try with_reducible rfl)
          try simp only [Act.put, lgA, lgB, lgC, lgD, lgE, lgF]
          refine wpAnyH_take (i := 7) (v := ?v7_67) rfl (by kernel_rfl) (by kernel_rfl) (by kernel_rfl) (fun _ _ _ h => h) (Or.inl ⟨by rfl, ?hy7_67⟩) (by assumption) ?rest7_67
          case hy7_67 => intro w hSw; (try dsimp only at hSw); go_simp; (try with_reducible rfl)
          try simp only [Act.put, lgA, lgB, lgC, lgD, lgE, lgF]
          refine wpAnyH_take (i := 8) (v := ?v8_68) rfl (by kernel_rfl) (by kernel_rfl) (by kernel_rfl) (fun _ _ _ h => h) (Or.inl ⟨by rfl, ?hy8_68⟩) (by assumption) ?rest8_68
          case hy8_68 => intro w hSw; (try dsimp only at hSw); go_simp; (try with_reducible rfl)
          try simp only [Act.put, lgA, lgB, lgC, lgD, lgE, lgF]
          refine wpAnyH_take (i := 9) (v := ?v9_69) rfl (by kernel_rfl) (by kernel_rfl) (by kernel_rfl) (fun _ _ _ h => h) (Or.inl ⟨by rfl, ?hy9_69⟩) (by assumption) ?rest9_69
          case hy9_69 => intro w hSw; (try dsimp only at hSw); go_simp; (try with_reducible rfl)
          try simp only [Act.put, lgA, lgB, lgC, lgD, lgE, lgF]
          refine wpAnyH_take (i := 10) (v := ?v10_70) rfl (by kernel_rfl) (by kernel_rfl) (by kernel_rfl) (fun _ _ _ h => h) (Or.inl ⟨by rfl, ?hy10_70⟩) (by assumption) ?rest10_70
          case hy10_70 => intro w hSw; (try dsimp only at hSw); go_simp; (try with_reducible rfl)
          try simp only [Act.put, lgA, lgB, lgC, lgD, lgE, lgF]
          refine wpAnyH_take (i := 11) (v := ?v11_71) rfl (by kernel_rfl) (by kernel_rfl) (by kernel_rfl) (fun _ _ _ h => h) (Or.inl ⟨by rfl, ?hy11_71⟩) (by assumption) ?rest11_71
          case hy11_71 => intro w hSw; (try dsimp only at hSw); go_simp; (try with_reducible rfl)
          try simp only [Act.put, lgA, lgB, lgC, lgD, lgE, lgF]
          refine wpAnyH_ready (rs := [12]) (by kernel_rfl) (by simp) ?_
          refine AllReadyH.cons rfl (fun K9 hK9 => ?_) AllReadyH.nil
          go_simp
          refine (fullMask_spec _ x _ (HQ.out _ (on hqF ywN))).mono ?_
          rintro e wO ⟨rfl, yy⟩
          have ywO : Below w60.heap.size w60 wO := on ywN yy
          have swO := ywO.size
          clear yy
          refine hK9.out _ _ ⟨(ywO.cell (p := ⟨w1.heap.size, 0, none⟩) (by simp only []; omega)).trans D_0, (ywO.cell (p := ⟨w1.heap.size + 1, 0, none⟩) (by simp only []; omega)).trans Q_0, (ywO.cell (p := ⟨w1.heap.size + 1, 1, none⟩) (by simp only []; omega)).trans Q_1, (ywO.cell (p := ⟨wf.heap.size, 1, none⟩) (by simp only []; omega)).trans F_1⟩ (fun hHeld => ?_)
          clear hK9 K9
          try simp only [Act.put, lgA, lgB, lgC, lgD, lgE, lgF]
          refine wpAnyH_ready (rs := [13]) (by kernel_rfl) (by simp) ?_
          refine AllReadyH.cons rfl (fun K9 hK9 => ?_) AllReadyH.nil
          go_simp
          refine (subSize_spec _ _ db x (fullMask x) _ (HD.out _ (on hqF ywO)) (HQ.out _ (on hqF ywO)) (fullMask_rng x)).mono ?_
          rintro e wP ⟨rfl, yy⟩
          have ywP : Below w60.heap.size w60 wP := on ywO yy
          have swP := ywP.size
          rw [hsub]
          clear yy
          refine hK9.out _ _ ⟨(ywP.cell (p := ⟨w1.heap.size, 0, none⟩) (by simp only []; omega)).trans D_0, (ywP.cell (p := ⟨w1.heap.size + 1, 0, none⟩) (by simp only []; omega)).trans Q_0, (ywP.cell (p := ⟨w1.heap.size + 1, 1, none⟩) (by simp only []; omega)).trans Q_1, (ywP.cell (p := ⟨wf.heap.size, 1, none⟩) (by simp only []; omega)).trans F_1⟩ (fun hHeld => ?_)
          clear hK9 K9
          try simp only [Act.put, lgA, lgB, lgC, lgD, lgE, lgF]
          refine wpAnyH_take (i := 14) (v := ?v14_72) rfl (by kernel_rfl) (by kernel_rfl) (by kernel_rfl) (fun _ _ _ h => h) (Or.inl ⟨by rfl, ?hy14_72⟩) (by assumption) ?rest14_72
          case hy14_72 => intro w hSw; (try dsimp only at hSw); go_simp; (try with_reducible rfl)
          try simp only [Act.put, lgA, lgB, lgC, lgD, lgE, lgF]
          refine wpAnyH_take (i := 15) (v := ?v15_73) rfl (by kernel_rfl) (by kernel_rfl) (by kernel_rfl) (fun _ _ _ h => h) (Or.inl ⟨by rfl, ?hy15_73⟩) (by assumption) ?rest15_73
          case hy15_73 => intro w hSw; (try dsimp only at hSw); go_simp; (try with_reducible rfl)
          try simp only [Act.put, lgA, lgB, lgC, lgD, lgE, lgF]
          refine wpAnyH_take (i := 16) (v := ?v16_74) rfl (by kernel_rfl) (by kernel_rfl) (by kernel_rfl) (fun _ _ _ h => h) (Or.inl ⟨by rfl, ?hy16_74⟩) (by assumption) ?rest16_74
          case hy16_74 => intro w hSw; (try dsimp only at hSw); go_simp; (try with_reducible rfl)
          try simp only [Act.put, lgA, lgB, lgC, lgD, lgE, lgF]
          refine wpAnyH_done (by kernel_rfl) ?_ _
          refine NoPanic.normal ?_
          have s75 := ywP.size
          have hb75 := on hb60 ywP
          replace D_0 := bxc ywP D_0
          replace Q_0 := bxc ywP Q_0
          replace Q_1 := bxc ywP Q_1
          replace is := is.below ywP
          replace F_0 := bxc ywP F_0
          replace F_1 := bxc ywP F_1
          go_wp2_with fail
          go_ret
          exact ⟨rfl, hb75⟩
        · skip
          go_wp2_with fail
          refine (sizes_impl _ _ db x _ (HD.out _ hqi) (HQ.out _ hqi)).mono ?_
          rintro e ws ⟨us, rfl, os, zs⟩
          obtain ⟨TS, hTS⟩ : ∃ q, trueSizes db x = q := ⟨_, rfl⟩
          have HTS := Lib.hid hTS
          rw [hTS] at os
          clear hTS
          obtain ⟨sb, sn, sc, rfl⟩ := oI_form1 os
          obtain ⟨hsn, is⟩ := rI_openQ (os.rd reads_I)
          subst hsn
          clear os
          have s76 := zs.size
          have hb76 := on hbi zs
          replace D_0 := bxc zs D_0
          replace Q_0 := bxc zs Q_0
          replace Q_1 := bxc zs Q_1
          have hqs := on hqi zs
          go_wp2_with fail
          refine (evalQ_impl _ _ db x _ (HD.out _ hqs) (HQ.out _ hqs)).mono ?_
          rintro e wf ⟨uf, rfl, of, zf⟩
          rw [hfull]
          obtain ⟨fvb, fvn, fvc, frb, frn, frc, rfl⟩ := oAn_form of
          have s77 := zf.size
          have hb77 := on hb76 zf
          replace D_0 := bxc zf D_0
          replace Q_0 := bxc zf Q_0
          replace Q_1 := bxc zf Q_1
          replace is := is.below zf
          have hqf := on hqs zf
          obtain ⟨b0f, n0f, c0f, b1f, n1f, c1f, eF, gf0, gf1⟩ := rAn_open (of.rd reads_An)
          simp only [List.cons.injEq, and_true, Value.slice.injEq] at eF
          obtain ⟨⟨e1f, e2f, e3f⟩, e4f, e5f, e6f⟩ := eF
          subst e1f e2f e3f e4f e5f e6f
          have hfl := (rS_sl gf1).len
          have hsub := subSize_yes hfull
          rw [hfl] at hsub
          clear gf0 gf1 of hfl
          obtain ⟨w78, hw78⟩ : ∃ W, W = wf.alloc (.cells #[.slice fvb fvn fvc, .slice frb frn frc] 35) := ⟨_, rfl⟩
          have z78 : Below wf.heap.size wf w78 := by rw [hw78]; exact (Below.refl _ _).alloc (Nat.le_refl _) _
          have s78 : w78.heap.size = wf.heap.size + 1 := by rw [hw78]; simp
          have hb78 := on hb77 z78
          have old78_D_0 := D_0
          have old78_Q_0 := Q_0
          have old78_Q_1 := Q_1
          replace D_0 := bxc z78 D_0
          replace Q_0 := bxc z78 Q_0
          replace Q_1 := bxc z78 Q_1
          replace is := is.below z78
          have F_0 : w78.cell? ⟨wf.heap.size, 0, none⟩ = some (.slice fvb fvn fvc) := by rw [hw78]; exact box_cell (Below.refl _ _) rfl
          have F_1 : w78.cell? ⟨wf.heap.size, 1, none⟩ = some (.slice frb frn frc) := by rw [hw78]; exact box_cell (Below.refl _ _) rfl
          have raw78_D_0 := D_0
          have raw78_Q_0 := Q_0
          have raw78_Q_1 := Q_1
          have raw78_F_0 := F_0
          have raw78_F_1 := F_1
          rw [hw78] at raw78_D_0 raw78_Q_0 raw78_Q_1 raw78_F_0 raw78_F_1
          go_wp2_with fail
          rw [← hw78]
          clear hw78
          clear old78_D_0 old78_Q_0 old78_Q_1 raw78_D_0 raw78_Q_0 raw78_Q_1 raw78_F_0 raw78_F_1
          have hqF := on hqf z78
          have hdr : Below w78.heap.size w78 w78.drew := (Below.refl _ _).drew
          refine wp_region_noPanic ?_
          refine wp_region_held_drew (S := (fun W => W.cell? ⟨w1.heap.size, 0, none⟩ = some (.slice b n c) ∧ W.cell? ⟨w1.heap.size + 1, 0, none⟩ = some (.int .i64 c0) ∧ W.cell? ⟨w1.heap.size + 1, 1, none⟩ = some (.slice qb qn qc) ∧ W.cell? ⟨wf.heap.size, 1, none⟩ = some (.slice frb frn frc))) (by kernel_rfl) ?hS79 (fun hHeld => ?_)
          case hS79 => exact ⟨D_0, Q_0, Q_1, F_1⟩
          refine wpAnyH_take (i := 0) (v := ?v0_80) rfl (by kernel_rfl) (by kernel_rfl) (by kernel_rfl) (fun _ _ _ h => h) (Or.inl ⟨by rfl, ?hy0_80⟩) (by assumption) ?rest0_80
          case hy0_80 => intro w hSw; (try dsimp only at hSw); go_simp; (try with_reducible rfl)
          try simp only [Act.put, lgA, lgB, lgC, lgD, lgE, lgF]
          refine wpAnyH_take (i := 1) (v := ?v1_81) rfl (by kernel_rfl) (by kernel_rfl) (by kernel_rfl) (fun _ _ _ h => h) (Or.inl ⟨by rfl, ?hy1_81⟩) (by assumption) ?rest1_81
          case hy1_81 => intro w hSw; (try dsimp only at hSw); go_simp; (try with_reducible rfl)
          try simp only [Act.put, lgA, lgB, lgC, lgD, lgE, lgF]
          refine wpAnyH_take (i := 2) (v := ?v2_82) rfl (by kernel_rfl) (by kernel_rfl) (by kernel_rfl) (fun _ _ _ h => h) (Or.inl ⟨by rfl, ?hy2_82⟩) (by assumption) ?rest2_82
          case hy2_82 => intro w hSw; (try dsimp only at hSw); go_simp; (try with_reducible rfl)
          try simp only [Act.put, lgA, lgB, lgC, lgD, lgE, lgF]
          refine wpAnyH_ready (rs := [3]) (by kernel_rfl) (by simp) ?_
          refine AllReadyH.cons rfl (fun K9 hK9 => ?_) AllReadyH.nil
          go_simp
          refine (sizes_spec _ _ db x _ (HD.out _ (on hqF hdr)) (HQ.out _ (on hqF hdr))).mono ?_
          rintro e wM ⟨u2, rfl, o2, yy⟩
          have ywM : Below w78.heap.size w78 wM := on hdr yy
          have swM := ywM.size
          rw [HTS.out] at o2
          obtain ⟨tb, tn, tc, rfl⟩ := oI_form1 o2
          obtain ⟨htn, it⟩ := rI_openQ (o2.rd reads_I)
          subst htn
          clear o2
          clear yy
          refine hK9.out _ _ ⟨(ywM.cell (p := ⟨w1.heap.size, 0, none⟩) (by simp only []; omega)).trans D_0, (ywM.cell (p := ⟨w1.heap.size + 1, 0, none⟩) (by simp only []; omega)).trans Q_0, (ywM.cell (p := ⟨w1.heap.size + 1, 1, none⟩) (by simp only []; omega)).trans Q_1, (ywM.cell (p := ⟨wf.heap.size, 1, none⟩) (by simp only []; omega)).trans F_1⟩ (fun hHeld => ?_)
          clear hK9 K9
          try simp only [Act.put, lgA, lgB, lgC, lgD, lgE, lgF]
          refine wpAnyH_ready (rs := [4]) (by kernel_rfl) (by simp) ?_
          refine AllReadyH.cons rfl (fun K9 hK9 => ?_) AllReadyH.nil
          go_simp
          refine (sameInts_eq _ _ _ _ _ TS _ (is.below ywM) it).mono ?_
          rintro e wN ⟨rfl, yy⟩
          replace yy := yy.below wM.heap.size
          have ywN : Below w78.heap.size w78 wN := on ywM yy
          have swN := ywN.size
          clear yy
          refine hK9.out _ _ ⟨(ywN.cell (p := ⟨w1.heap.size, 0, none⟩) (by simp only []; omega)).trans D_0, (ywN.cell (p := ⟨w1.heap.size + 1, 0, none⟩) (by simp only []; omega)).trans Q_0, (ywN.cell (p := ⟨w1.heap.size + 1, 1, none⟩) (by simp only []; omega)).trans Q_1, (ywN.cell (p := ⟨wf.heap.size, 1, none⟩) (by simp only []; omega)).trans F_1⟩ (fun hHeld => ?_)
          clear hK9 K9
          try simp only [Act.put, lgA, lgB, lgC, lgD, lgE, lgF]
          refine wpAnyH_take (i := 5) (v := ?v5_83) rfl (by kernel_rfl) (by kernel_rfl) (by kernel_rfl) (fun _ _ _ h => h) (Or.inl ⟨by rfl, ?hy5_83⟩) (by assumption) ?rest5_83
          case hy5_83 => intro w hSw; (try dsimp only at hSw); go_simp; (try with_reducible rfl)
          try simp only [Act.put, lgA, lgB, lgC, lgD, lgE, lgF]
          refine wpAnyH_take (i := 6) (v := ?v6_84) rfl (by kernel_rfl) (by kernel_rfl) (by kernel_rfl) (fun _ _ _ h => h) (Or.inl ⟨by rfl, ?hy6_84⟩) (by assumption) ?rest6_84
          case hy6_84 => intro w hSw; (try dsimp only at hSw); go_simp; (try with_reducible rfl)
          try simp only [Act.put, lgA, lgB, lgC, lgD, lgE, lgF]
          refine wpAnyH_take (i := 7) (v := ?v7_85) rfl (by kernel_rfl) (by kernel_rfl) (by kernel_rfl) (fun _ _ _ h => h) (Or.inl ⟨by rfl, ?hy7_85⟩) (by assumption) ?rest7_85
          case hy7_85 => intro w hSw; (try dsimp only at hSw); go_simp; (try with_reducible rfl)
          try simp only [Act.put, lgA, lgB, lgC, lgD, lgE, lgF]
          refine wpAnyH_take (i := 8) (v := ?v8_86) rfl (by kernel_rfl) (by kernel_rfl) (by kernel_rfl) (fun _ _ _ h => h) (Or.inl ⟨by rfl, ?hy8_86⟩) (by assumption) ?rest8_86
          case hy8_86 => intro w hSw; (try dsimp only at hSw); go_simp; (try with_reducible rfl)
          try simp only [Act.put, lgA, lgB, lgC, lgD, lgE, lgF]
          refine wpAnyH_take (i := 9) (v := ?v9_87) rfl (by kernel_rfl) (by kernel_rfl) (by kernel_rfl) (fun _ _ _ h => h) (Or.inl ⟨by rfl, ?hy9_87⟩) (by assumption) ?rest9_87
          case hy9_87 => intro w hSw; (try dsimp only at hSw); go_simp; (try with_reducible rfl)
          try simp only [Act.put, lgA, lgB, lgC, lgD, lgE, lgF]
          refine wpAnyH_take (i := 10) (v := ?v10_88) rfl (by kernel_rfl) (by kernel_rfl) (by kernel_rfl) (fun _ _ _ h => h) (Or.inl ⟨by rfl, ?hy10_88⟩) (by assumption) ?rest10_88
          case hy10_88 => intro w hSw; (try dsimp only at hSw); go_simp; (try with_reducible rfl)
          try simp only [Act.put, lgA, lgB, lgC, lgD, lgE, lgF]
          refine wpAnyH_take (i := 11) (v := ?v11_89) rfl (by kernel_rfl) (by kernel_rfl) (by kernel_rfl) (fun _ _ _ h => h) (Or.inl ⟨by rfl, ?hy11_89⟩) (by assumption) ?rest11_89
          case hy11_89 => intro w hSw; (try dsimp only at hSw); go_simp; (try with_reducible rfl)
          try simp only [Act.put, lgA, lgB, lgC, lgD, lgE, lgF]
          refine wpAnyH_ready (rs := [12]) (by kernel_rfl) (by simp) ?_
          refine AllReadyH.cons rfl (fun K9 hK9 => ?_) AllReadyH.nil
          go_simp
          refine (fullMask_spec _ x _ (HQ.out _ (on hqF ywN))).mono ?_
          rintro e wO ⟨rfl, yy⟩
          have ywO : Below w78.heap.size w78 wO := on ywN yy
          have swO := ywO.size
          clear yy
          refine hK9.out _ _ ⟨(ywO.cell (p := ⟨w1.heap.size, 0, none⟩) (by simp only []; omega)).trans D_0, (ywO.cell (p := ⟨w1.heap.size + 1, 0, none⟩) (by simp only []; omega)).trans Q_0, (ywO.cell (p := ⟨w1.heap.size + 1, 1, none⟩) (by simp only []; omega)).trans Q_1, (ywO.cell (p := ⟨wf.heap.size, 1, none⟩) (by simp only []; omega)).trans F_1⟩ (fun hHeld => ?_)
          clear hK9 K9
          try simp only [Act.put, lgA, lgB, lgC, lgD, lgE, lgF]
          refine wpAnyH_ready (rs := [13]) (by kernel_rfl) (by simp) ?_
          refine AllReadyH.cons rfl (fun K9 hK9 => ?_) AllReadyH.nil
          go_simp
          refine (subSize_spec _ _ db x (fullMask x) _ (HD.out _ (on hqF ywO)) (HQ.out _ (on hqF ywO)) (fullMask_rng x)).mono ?_
          rintro e wP ⟨rfl, yy⟩
          have ywP : Below w78.heap.size w78 wP := on ywO yy
          have swP := ywP.size
          rw [hsub]
          clear yy
          refine hK9.out _ _ ⟨(ywP.cell (p := ⟨w1.heap.size, 0, none⟩) (by simp only []; omega)).trans D_0, (ywP.cell (p := ⟨w1.heap.size + 1, 0, none⟩) (by simp only []; omega)).trans Q_0, (ywP.cell (p := ⟨w1.heap.size + 1, 1, none⟩) (by simp only []; omega)).trans Q_1, (ywP.cell (p := ⟨wf.heap.size, 1, none⟩) (by simp only []; omega)).trans F_1⟩ (fun hHeld => ?_)
          clear hK9 K9
          try simp only [Act.put, lgA, lgB, lgC, lgD, lgE, lgF]
          refine wpAnyH_take (i := 14) (v := ?v14_90) rfl (by kernel_rfl) (by kernel_rfl) (by kernel_rfl) (fun _ _ _ h => h) (Or.inl ⟨by rfl, ?hy14_90⟩) (by assumption) ?rest14_90
          case hy14_90 => intro w hSw; (try dsimp only at hSw); go_simp; (try with_reducible rfl)
          try simp only [Act.put, lgA, lgB, lgC, lgD, lgE, lgF]
          refine wpAnyH_take (i := 15) (v := ?v15_91) rfl (by kernel_rfl) (by kernel_rfl) (by kernel_rfl) (fun _ _ _ h => h) (Or.inl ⟨by rfl, ?hy15_91⟩) (by assumption) ?rest15_91
          case hy15_91 => intro w hSw; (try dsimp only at hSw); go_simp; (try with_reducible rfl)
          try simp only [Act.put, lgA, lgB, lgC, lgD, lgE, lgF]
          refine wpAnyH_take (i := 16) (v := ?v16_92) rfl (by kernel_rfl) (by kernel_rfl) (by kernel_rfl) (fun _ _ _ h => h) (Or.inl ⟨by rfl, ?hy16_92⟩) (by assumption) ?rest16_92
          case hy16_92 => intro w hSw; (try dsimp only at hSw); go_simp; (try with_reducible rfl)
          try simp only [Act.put, lgA, lgB, lgC, lgD, lgE, lgF]
          refine wpAnyH_done (by kernel_rfl) ?_ _
          refine NoPanic.normal ?_
          have s93 := ywP.size
          have hb93 := on hb78 ywP
          replace D_0 := bxc ywP D_0
          replace Q_0 := bxc ywP Q_0
          replace Q_1 := bxc ywP Q_1
          replace is := is.below ywP
          replace F_0 := bxc ywP F_0
          replace F_1 := bxc ywP F_1
          go_wp2_with fail
          go_ret
          exact ⟨rfl, hb93⟩

end Go.Proofs.YtpgfkjcekhifiaaGreat
