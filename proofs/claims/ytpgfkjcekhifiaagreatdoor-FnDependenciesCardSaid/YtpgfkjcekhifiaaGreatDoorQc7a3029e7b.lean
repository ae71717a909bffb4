/- Texts joined for one claim: LDeps. -/
import Derived.Test.YtpgfkjcekhifiaaGreatDoorQ82ec8cd535
import Derived.Test.YtpgfkjcekhifiaaGreatDoorQ1ca02a02db
import Derived.Test.YtpgfkjcekhifiaaGreatDoorQcd63b1ee75
import Derived.Test.YtpgfkjcekhifiaaGreatDoorQ685b7ea029
import Derived.Test.YtpgfkjcekhifiaaGreatDoorQcff871a16e
import Derived.Test.YtpgfkjcekhifiaaGreatDoorQ1ab4784b74
import Derived.Test.YtpgfkjcekhifiaaGreatDoorQb682af03a9
import Derived.Test.YtpgfkjcekhifiaaGreatDoorQ92c501f38f
import Derived.Test.YtpgfkjcekhifiaaGreatDoorQad0dd18062
import Derived.Test.YtpgfkjcekhifiaaGreatDoorQ172172a568
import Derived.Deep.RegionHeld3
import Derived.Deep.DeepCutAuto

namespace Go.Proofs.YtpgfkjcekhifiaaGreatDoor

open Go.RowKit

set_option linter.unusedVariables false

set_option linter.unusedSimpArgs false

set_option synthInstance.maxSize 2000

set_option synthInstance.maxHeartbeats 400000

theorem rI_openE {w : World} {b : Option Addr} {n c : Nat} {xs : List Int} (h : rI.rep w [.slice b n c] xs) : n = xs.length ∧ Ints w b n xs := by
  obtain ⟨a, cap, e, h1, h2, h3⟩ := rI_open h
  injection e with e1 e2 e3
  subst e1 e2 e3
  exact ⟨rfl, h3⟩

theorem small_bulk {ds : List DDp} (h : ds.length ≤ 3 ∧ SmallDs ds) : bulk_Dl ds ≤ 1048576 := by
  obtain ⟨h1, h2⟩ := h
  have : ∀ l : List DDp, SmallDs l → sumBy bulk_Dp l ≤ 20 * l.length := by
    intro l
    induction l with
    | nil => intro _; simp [sumBy]
    | cons d t ih =>
      intro hl
      have h3 := hl d (List.mem_cons_self ..)
      have h4 := ih (fun e he => hl e (List.mem_cons_of_mem _ he))
      have h5 : bulk_Dp d ≤ 20 := by unfold bulk_Dp bulk_I; omega
      simp only [sumBy, List.map_cons, List.sum_cons, List.length_cons] at h4 ⊢
      omega
  have h6 := this ds h2
  unfold bulk_Dl
  omega

theorem rI_tail {w : World} {b off n c : Nat} {xs : List Int} (h : rI.rep w [.slice (some ⟨b, off, none⟩) n c] xs) (hn : 0 < n) : rI.rep w [.slice (some ⟨b, off + 1, none⟩) (n - 1) (c - 1)] (xs.drop 1) := by
  obtain ⟨a, n', c', hv, h1, h2, hs⟩ := h
  simp only [List.cons.injEq, and_true, Value.slice.injEq] at hv
  obtain ⟨rfl, rfl, rfl⟩ := hv
  refine ⟨_, _, _, rfl, by omega, by omega, ⟨by rw [List.length_drop, hs.len], by have := hs.small; omega, fun i x hx => ?_⟩⟩
  rw [List.getElem?_drop] at hx
  obtain ⟨b2, o2, cs, ha, hr, hc⟩ := hs.elem (1 + i) x hx
  simp only [Option.some.injEq, Addr.mk.injEq] at ha
  obtain ⟨rfl, rfl, _⟩ := ha
  refine ⟨_, _, cs, rfl, hr, fun j u hu => ?_⟩
  have h9 := hc j u hu
  have e : off + ((1 + i) * R.int.size + j) = off + 1 + (i * R.int.size + j) := by
    show off + ((1 + i) * 1 + j) = off + 1 + (i * 1 + j); omega
  rw [e] at h9
  exact h9

theorem rI_none {w : World} {b : Option Addr} {c : Nat} (hc : c ≤ 9223372036854775807) : rI.rep w [.slice b 0 c] [] :=
  ⟨b, 0, c, rfl, Nat.zero_le _, hc, ⟨rfl, by omega, fun i x hx => by simp at hx⟩⟩

theorem text_same {s : ByteArray} {x : DDp} (h : parDp s = some x) : bs (fmtDp x) = s := by
  rw [(par_some h).2]

set_option maxRecDepth 100000 in
set_option maxHeartbeats 16000000 in
theorem walk_FnDependencies (v0 : Value) (w : World) (h0 : kB_in w v0) (hm : ∃ m, w.cell? ⟨0, 0, none⟩ = some (.int .i64 m)) :
    Calls Tryz.prog 3 #[v0] w fun e w' => e = .returned (.bool true) ∧ Below w.heap.size w w' := by
  obtain ⟨ba, bn, bc, rfl, hB⟩ := h0
  have HM := Lib.hid (fun W (hW : Below w.heap.size w W) => someCell hm hW)
  have HBY := Lib.hid hB
  clear hm
  have hb0 : Below w.heap.size w w := Below.refl _ _
  go_enter Tryz.func3, Tryz.ntmps3
  go_wp2_with fail
  refine (big_any _ _ _ _).mono ?_
  rintro e w' ⟨rfl, rfl⟩
  by_cases hbig : 1048576 < bn
  · have e9 : decide (1048576 < bn) = true := by simpa using hbig
    rw [e9]
    go_wp2_with fail
    go_ret
    exact ⟨rfl, hb0⟩
  have e9 : decide (1048576 < bn) = false := by simpa using hbig
  rw [e9]
  clear e9
  have hbn : bn ≤ 2000000 := by omega
  clear hbig
  go_wp2_with fail
  refine (drawViol_any _ ba bn bc hbn hB).mono ?_
  rintro e w1 ⟨b, n, c, db, nm, fb, fn, fc, t, x, rfl, rd, rx, z1⟩
  have s2 := z1.size
  have hb2 := on hb0 z1
  clear hB
  obtain ⟨w3, hw3⟩ : ∃ W, W = w1.alloc (.cells #[.slice b n c] 26) := ⟨_, rfl⟩
  have z3 : Below w1.heap.size w1 w3 := by rw [hw3]; exact (Below.refl _ _).alloc (Nat.le_refl _) _
  have s3 : w3.heap.size = w1.heap.size + 1 := by rw [hw3]; simp
  have hb3 := on hb2 z3
  replace rd := rDb.mono rd z3
  replace rx := rDp.mono rx z3
  have X_0 : w3.cell? ⟨w1.heap.size, 0, none⟩ = some (.slice b n c) := by rw [hw3]; exact box_cell (Below.refl _ _) rfl
  have raw3_X_0 := X_0
  rw [hw3] at raw3_X_0
  obtain ⟨w4, hw4⟩ : ∃ W, W = w3.alloc (.cells #[.string nm, .slice fb fn fc, .int .i64 t] 29) := ⟨_, rfl⟩
  have z4 : Below w3.heap.size w3 w4 := by rw [hw4]; exact (Below.refl _ _).alloc (Nat.le_refl _) _
  have s4 : w4.heap.size = w3.heap.size + 1 := by rw [hw4]; simp
  have hb4 := on hb3 z4
  replace rd := rDb.mono rd z4
  replace rx := rDp.mono rx z4
  replace X_0 := bxc z4 X_0
  have e4 : w3.heap.size = w1.heap.size + 1 := by omega
  have Y_0 : w4.cell? ⟨w3.heap.size, 0, none⟩ = some (.string nm) := by rw [hw4]; exact box_cell (Below.refl _ _) rfl
  have Y_1 : w4.cell? ⟨w3.heap.size, 1, none⟩ = some (.slice fb fn fc) := by rw [hw4]; exact box_cell (Below.refl _ _) rfl
  have Y_2 : w4.cell? ⟨w3.heap.size, 2, none⟩ = some (.int .i64 t) := by rw [hw4]; exact box_cell (Below.refl _ _) rfl
  rw [e4] at Y_0 Y_1 Y_2
  have raw4_X_0 := X_0
  have raw4_Y_0 := Y_0
  have raw4_Y_1 := Y_1
  have raw4_Y_2 := Y_2
  rw [hw4, hw3] at raw4_X_0 raw4_Y_0 raw4_Y_1 raw4_Y_2
  go_wp2_with fail
  rw [← hw3]
  rw [← hw4]
  clear hw4 hw3
  clear raw3_X_0 raw4_X_0 raw4_Y_0 raw4_Y_1 raw4_Y_2
  obtain ⟨wq, rfl⟩ : ∃ W, W = w4 := ⟨_, rfl⟩
  have HD := Lib.hid (fun W (hW : Below wq.heap.size wq W) => rDb.mono rd hW)
  have HX := Lib.hid (fun W (hW : Below wq.heap.size wq W) => rDp.mono rx hW)
  clear rd rx
  have hbq : Below wq.heap.size wq wq := Below.refl _ _
  refine (viol_impl _ _ db x _ (HD.out _ hbq) (HX.out _ hbq)).mono ?_
  rintro e wv ⟨uv, rfl, ov, zv⟩
  obtain ⟨vb, vn, vc, rfl⟩ := oI_form1 ov
  obtain ⟨hvn, iv⟩ := rI_openE (ov.rd reads_I)
  subst hvn
  clear ov
  have s5 := zv.size
  have hb5 := on hb4 zv
  replace X_0 := bxc zv X_0
  replace Y_0 := bxc zv Y_0
  replace Y_1 := bxc zv Y_1
  replace Y_2 := bxc zv Y_2
  have hqv := zv
  obtain ⟨VL, hVL⟩ : ∃ q, viol db x = q := ⟨_, rfl⟩
  rw [hVL] at iv
  simp only [hVL]
  have hV3 : (validDp db x = true ∧ holdsDp db x = true ∧ VL.length = 0) ∨ (validDp db x = true ∧ holdsDp db x = false ∧ VL.length ≠ 0) ∨ (validDp db x = false ∧ holdsDp db x = false ∧ VL.length = 0) := by
    unfold holdsDp
    rw [hVL]
    cases hv : validDp db x with
    | true =>
      by_cases h0 : VL.length = 0
      · exact .inl ⟨rfl, by simp [h0], h0⟩
      · exact .inr (.inl ⟨rfl, by simp [h0], h0⟩)
    | false =>
      refine .inr (.inr ⟨rfl, rfl, ?_⟩)
      rw [← hVL]
      unfold viol
      rw [hv]
      rfl
  have HVL := Lib.hid hVL
  have HV3 := Lib.hid hV3
  clear hVL hV3
  go_wp2_with fail
  obtain ⟨w5, rfl⟩ : ∃ W, W = wv := ⟨_, rfl⟩
  have hq5 := hqv
  go_cut [57] (fun t57 wx => t57 = .bool false ∧ Below w5.heap.size w5 wx)
  case first =>
    have hVL := HVL.out
    obtain hV3 := HV3.out
    clear HVL HV3 HM HBY
    have hdr : Below w5.heap.size w5 w5.drew := (Below.refl _ _).drew
    rcases hV3 with ⟨hval, hhold, hz⟩ | ⟨hval, hhold, hz⟩ | ⟨hval, hhold, hz⟩
    · have hzi : ((VL.length : Int) == 0) = true := by rw [beq_iff_eq]; omega
      clear hz
      refine wp_region_noPanic ?_
      refine wp_region_held_drew (S := (fun W => W.cell? ⟨w1.heap.size, 0, none⟩ = some (.slice b n c) ∧ W.cell? ⟨w1.heap.size + 1, 0, none⟩ = some (.string nm) ∧ W.cell? ⟨w1.heap.size + 1, 1, none⟩ = some (.slice fb fn fc) ∧ W.cell? ⟨w1.heap.size + 1, 2, none⟩ = some (.int .i64 t))) (by kernel_rfl) ?hS6 (fun hHeld => ?_)
      case hS6 => exact ⟨X_0, Y_0, Y_1, Y_2⟩
      refine wpAnyH_take (i := 0) (v := ?v0_7) rfl (by kernel_rfl) (by kernel_rfl) (by kernel_rfl) (fun _ _ _ h => h) (Or.inl ⟨by rfl, ?hy0_7⟩) (by assumption) ?rest0_7
      case hy0_7 => intro w hSw; (try dsimp only at hSw); go_simp; (try with_reducible rfl)
      try simp only [Act.put, lgA, lgB, lgC, lgD, lgE, lgF]
      refine wpAnyH_take (i := 1) (v := ?v1_8) rfl (by kernel_rfl) (by kernel_rfl) (by kernel_rfl) (fun _ _ _ h => h) (Or.inl ⟨by rfl, ?hy1_8⟩) (by assumption) ?rest1_8
      case hy1_8 => intro w hSw; (try dsimp only at hSw); go_simp; (try with_reducible rfl)
      try simp only [Act.put, lgA, lgB, lgC, lgD, lgE, lgF]
      refine wpAnyH_take (i := 2) (v := ?v2_9) rfl (by kernel_rfl) (by kernel_rfl) (by kernel_rfl) (fun _ _ _ h => h) (Or.inl ⟨by rfl, ?hy2_9⟩) (by assumption) ?rest2_9
      case hy2_9 => intro w hSw; (try dsimp only at hSw); go_simp; (try with_reducible rfl)
      try simp only [Act.put, lgA, lgB, lgC, lgD, lgE, lgF]
      refine wpAnyH_ready (rs := [3]) (by kernel_rfl) (by simp) ?_
      refine AllReadyH.cons rfl (fun K9 hK9 => ?_) AllReadyH.nil
      go_simp
      refine (viol_spec _ _ db x _ (HD.out _ (on hq5 hdr)) (HX.out _ (on hq5 hdr))).mono ?_
      rintro e wA ⟨uA, rfl, oA, yy⟩
      obtain ⟨sb, sn, sc, rfl⟩ := oI_form1 oA
      obtain ⟨hsn, iA⟩ := rI_openE (oA.rd reads_I)
      subst hsn
      rw [hVL] at iA
      simp only [hVL]
      have ywA : Below w5.heap.size w5 wA := on hdr yy
      have swA := ywA.size
      clear yy oA
      refine hK9.out _ _ ⟨(ywA.cell (p := ⟨w1.heap.size, 0, none⟩) (by simp only []; omega)).trans X_0, (ywA.cell (p := ⟨w1.heap.size + 1, 0, none⟩) (by simp only []; omega)).trans Y_0, (ywA.cell (p := ⟨w1.heap.size + 1, 1, none⟩) (by simp only []; omega)).trans Y_1, (ywA.cell (p := ⟨w1.heap.size + 1, 2, none⟩) (by simp only []; omega)).trans Y_2⟩ (fun hHeld => ?_)
      clear hK9 K9
      try simp only [Act.put, lgA, lgB, lgC, lgD, lgE, lgF]
      refine wpAnyH_ready (rs := [4]) (by kernel_rfl) (by simp) ?_
      refine AllReadyH.cons rfl (fun K9 hK9 => ?_) AllReadyH.nil
      go_simp
      refine (sameInts_eq _ _ _ _ _ VL _ (iv.below ywA) iA).mono ?_
      rintro e wB ⟨rfl, yy⟩
      have ywB : Below w5.heap.size w5 wB := on ywA (yy.below _)
      have swB := ywB.size
      clear yy iA
      refine hK9.out _ _ ⟨(ywB.cell (p := ⟨w1.heap.size, 0, none⟩) (by simp only []; omega)).trans X_0, (ywB.cell (p := ⟨w1.heap.size + 1, 0, none⟩) (by simp only []; omega)).trans Y_0, (ywB.cell (p := ⟨w1.heap.size + 1, 1, none⟩) (by simp only []; omega)).trans Y_1, (ywB.cell (p := ⟨w1.heap.size + 1, 2, none⟩) (by simp only []; omega)).trans Y_2⟩ (fun hHeld => ?_)
      clear hK9 K9
      try simp only [Act.put, lgA, lgB, lgC, lgD, lgE, lgF]
      refine wpAnyH_take (i := 5) (v := ?v5_10) rfl (by kernel_rfl) (by kernel_rfl) (by kernel_rfl) (fun _ _ _ h => h) (Or.inl ⟨by rfl, ?hy5_10⟩) (by assumption) ?rest5_10
      case hy5_10 => intro w hSw; (try dsimp only at hSw); go_simp; (try with_reducible rfl)
      try simp only [Act.put, lgA, lgB, lgC, lgD, lgE, lgF]
      refine wpAnyH_take (i := 6) (v := ?v6_11) rfl (by kernel_rfl) (by kernel_rfl) (by kernel_rfl) (fun _ _ _ h => h) (Or.inl ⟨by rfl, ?hy6_11⟩) (by assumption) ?rest6_11
      case hy6_11 => intro w hSw; (try dsimp only at hSw); go_simp; (try with_reducible rfl)
      try simp only [Act.put, lgA, lgB, lgC, lgD, lgE, lgF]
      refine wpAnyH_take (i := 7) (v := ?v7_12) rfl (by kernel_rfl) (by kernel_rfl) (by kernel_rfl) (fun _ _ _ h => h) (Or.inl ⟨by rfl, ?hy7_12⟩) (by assumption) ?rest7_12
      case hy7_12 => intro w hSw; (try dsimp only at hSw); go_simp; (try with_reducible rfl)
      try simp only [Act.put, lgA, lgB, lgC, lgD, lgE, lgF]
      refine wpAnyH_take (i := 8) (v := ?v8_13) rfl (by kernel_rfl) (by kernel_rfl) (by kernel_rfl) (fun _ _ _ h => h) (Or.inl ⟨by rfl, ?hy8_13⟩) (by assumption) ?rest8_13
      case hy8_13 => intro w hSw; (try dsimp only at hSw); go_simp; (try with_reducible rfl)
      try simp only [Act.put, lgA, lgB, lgC, lgD, lgE, lgF]
      refine wpAnyH_take (i := 10) (v := ?v10_14) rfl (by kernel_rfl) (by kernel_rfl) (by kernel_rfl) (fun _ _ _ h => h) (Or.inl ⟨by rfl, ?hy10_14⟩) (by assumption) ?rest10_14
      case hy10_14 => intro w hSw; (try dsimp only at hSw); go_simp; (try with_reducible rfl)
      try simp only [Act.put, lgA, lgB, lgC, lgD, lgE, lgF]
      refine wpAnyH_take (i := 11) (v := ?v11_15) rfl (by kernel_rfl) (by kernel_rfl) (by kernel_rfl) (fun _ _ _ h => h) (Or.inl ⟨by rfl, ?hy11_15⟩) (by assumption) ?rest11_15
      case hy11_15 => intro w hSw; (try dsimp only at hSw); go_simp; (try with_reducible rfl)
      try simp only [Act.put, lgA, lgB, lgC, lgD, lgE, lgF]
      refine wpAnyH_ready (rs := [9]) (by kernel_rfl) (by simp) ?_
      refine AllReadyH.cons rfl (fun K9 hK9 => ?_) AllReadyH.nil
      go_simp
      refine (holdsDp_impl _ _ db x _ (HD.out _ (on hq5 ywB)) (HX.out _ (on hq5 ywB))).mono ?_
      rintro e wC ⟨rfl, yy⟩
      rw [hhold]
      have ywC : Below w5.heap.size w5 wC := on ywB yy
      have swC := ywC.size
      clear yy
      refine hK9.out _ _ ⟨(ywC.cell (p := ⟨w1.heap.size, 0, none⟩) (by simp only []; omega)).trans X_0, (ywC.cell (p := ⟨w1.heap.size + 1, 0, none⟩) (by simp only []; omega)).trans Y_0, (ywC.cell (p := ⟨w1.heap.size + 1, 1, none⟩) (by simp only []; omega)).trans Y_1, (ywC.cell (p := ⟨w1.heap.size + 1, 2, none⟩) (by simp only []; omega)).trans Y_2⟩ (fun hHeld => ?_)
      clear hK9 K9
      try simp only [Act.put, lgA, lgB, lgC, lgD, lgE, lgF]
      refine wpAnyH_ready (rs := [12]) (by kernel_rfl) (by simp) ?_
      refine AllReadyH.cons rfl (fun K9 hK9 => ?_) AllReadyH.nil
      go_simp
      refine (validDp_spec _ _ db x _ (HD.out _ (on hq5 ywC)) (HX.out _ (on hq5 ywC))).mono ?_
      rintro e wD ⟨rfl, yy⟩
      rw [hval]
      have ywD : Below w5.heap.size w5 wD := on ywC yy
      have swD := ywD.size
      clear yy
      refine hK9.out _ _ ⟨(ywD.cell (p := ⟨w1.heap.size, 0, none⟩) (by simp only []; omega)).trans X_0, (ywD.cell (p := ⟨w1.heap.size + 1, 0, none⟩) (by simp only []; omega)).trans Y_0, (ywD.cell (p := ⟨w1.heap.size + 1, 1, none⟩) (by simp only []; omega)).trans Y_1, (ywD.cell (p := ⟨w1.heap.size + 1, 2, none⟩) (by simp only []; omega)).trans Y_2⟩ (fun hHeld => ?_)
      clear hK9 K9
      try simp only [Act.put, lgA, lgB, lgC, lgD, lgE, lgF]
      refine wpAnyH_take (i := 13) (v := ?v13_16) rfl (by kernel_rfl) (by kernel_rfl) (by kernel_rfl) (fun _ _ _ h => h) (Or.inl ⟨by rfl, ?hy13_16⟩) (by assumption) ?rest13_16
      case hy13_16 => intro w hSw; (try dsimp only at hSw); go_simp; (try with_reducible rfl)
      try simp only [Act.put, lgA, lgB, lgC, lgD, lgE, lgF]
      refine wpAnyH_take (i := 14) (v := ?v14_17) rfl (by kernel_rfl) (by kernel_rfl) (by kernel_rfl) (fun _ _ _ h => h) (Or.inl ⟨by rfl, ?hy14_17⟩) (by assumption) ?rest14_17
      case hy14_17 => intro w hSw; (try dsimp only at hSw); go_simp; (try with_reducible rfl)
      try simp only [Act.put, lgA, lgB, lgC, lgD, lgE, lgF]
      refine wpAnyH_take (i := 15) (v := ?v15_18) rfl (by kernel_rfl) (by kernel_rfl) (by kernel_rfl) (fun _ _ _ h => h) (Or.inl ⟨by rfl, ?hy15_18⟩) (by assumption) ?rest15_18
      case hy15_18 => intro w hSw; (try dsimp only at hSw); go_simp; (try with_reducible rfl)
      try simp only [Act.put, lgA, lgB, lgC, lgD, lgE, lgF]
      refine wpAnyH_take (i := 16) (v := ?v16_19) rfl (by kernel_rfl) (by kernel_rfl) (by kernel_rfl) (fun _ _ _ h => h) (Or.inl ⟨by rfl, ?hy16_19⟩) (by assumption) ?rest16_19
      case hy16_19 => intro w hSw; (try dsimp only at hSw); go_simp; (try with_reducible rfl)
      try simp only [Act.put, lgA, lgB, lgC, lgD, lgE, lgF]
      refine wpAnyH_take (i := 17) (v := ?v17_20) rfl (by kernel_rfl) (by kernel_rfl) (by kernel_rfl) (fun _ _ _ h => h) (Or.inl ⟨by rfl, ?hy17_20⟩) (by assumption) ?rest17_20
      case hy17_20 => intro w hSw; (try dsimp only at hSw); go_simp; (try with_reducible rfl)
      try simp only [Act.put, lgA, lgB, lgC, lgD, lgE, lgF]
      refine wpAnyH_take (i := 18) (v := ?v18_21) rfl (by kernel_rfl) (by kernel_rfl) (by kernel_rfl) (fun _ _ _ h => h) (Or.inl ⟨by rfl, ?hy18_21⟩) (by assumption) ?rest18_21
      case hy18_21 => intro w hSw; (try dsimp only at hSw); go_simp; (try with_reducible rfl)
      try simp only [Act.put, lgA, lgB, lgC, lgD, lgE, lgF]
      refine wpAnyH_take (i := 19) (v := ?v19_22) rfl (by kernel_rfl) (by kernel_rfl) (by kernel_rfl) (fun _ _ _ h => h) (Or.inl ⟨by rfl, ?hy19_22⟩) (by assumption) ?rest19_22
      case hy19_22 => intro w hSw; (try dsimp only at hSw); go_simp; (try with_reducible rfl)
      try simp only [Act.put, lgA, lgB, lgC, lgD, lgE, lgF]
      refine wpAnyH_take (i := 20) (v := ?v20_23) rfl (by kernel_rfl) (by kernel_rfl) (by kernel_rfl) (fun _ _ _ h => h) (Or.inl ⟨by rfl, ?hy20_23⟩) (by assumption) ?rest20_23
      case hy20_23 => intro w hSw; (try dsimp only at hSw); go_simp; (try with_reducible rfl)
      try simp only [Act.put, lgA, lgB, lgC, lgD, lgE, lgF]
      refine wpAnyH_take (i := 21) (v := ?v21_24) rfl (by kernel_rfl) (by kernel_rfl) (by kernel_rfl) (fun _ _ _ h => h) (Or.inl ⟨by rfl, ?hy21_24⟩) (by assumption) ?rest21_24
      case hy21_24 => intro w hSw; (try dsimp only at hSw); go_simp; (try with_reducible rfl)
      try simp only [Act.put, lgA, lgB, lgC, lgD, lgE, lgF]
      refine wpAnyH_take (i := 22) (v := ?v22_25) rfl (by kernel_rfl) (by kernel_rfl) (by kernel_rfl) (fun _ _ _ h => h) (Or.inl ⟨by rfl, ?hy22_25⟩) (by assumption) ?rest22_25
      case hy22_25 => intro w hSw; (try dsimp only at hSw); go_simp; (try with_reducible rfl)
      try simp only [Act.put, lgA, lgB, lgC, lgD, lgE, lgF]
      refine wpAnyH_take (i := 24) (v := ?v24_26) rfl (by kernel_rfl) (by kernel_rfl) (by kernel_rfl) (fun _ _ _ h => h) (Or.inl ⟨by rfl, ?hy24_26⟩) (by assumption) ?rest24_26
      case hy24_26 => intro w hSw; (try dsimp only at hSw); go_simp; (try with_reducible rfl)
      try simp only [Act.put, lgA, lgB, lgC, lgD, lgE, lgF]
      refine wpAnyH_take (i := 25) (v := ?v25_27) rfl (by kernel_rfl) (by kernel_rfl) (by kernel_rfl) (fun _ _ _ h => h) (Or.inl ⟨by rfl, ?hy25_27⟩) (by assumption) ?rest25_27
      case hy25_27 => intro w hSw; (try dsimp only at hSw); go_simp; (try with_reducible rfl)
      try simp only [Act.put, lgA, lgB, lgC, lgD, lgE, lgF]
      refine wpAnyH_ready (rs := [23]) (by kernel_rfl) (by simp) ?_
      refine AllReadyH.cons rfl (fun K9 hK9 => ?_) AllReadyH.nil
      go_simp
      refine (validDp_impl _ _ db x _ (HD.out _ (on hq5 ywD)) (HX.out _ (on hq5 ywD))).mono ?_
      rintro e wE ⟨rfl, yy⟩
      rw [hval]
      have ywE : Below w5.heap.size w5 wE := on ywD yy
      have swE := ywE.size
      clear yy
      refine hK9.out _ _ ⟨(ywE.cell (p := ⟨w1.heap.size, 0, none⟩) (by simp only []; omega)).trans X_0, (ywE.cell (p := ⟨w1.heap.size + 1, 0, none⟩) (by simp only []; omega)).trans Y_0, (ywE.cell (p := ⟨w1.heap.size + 1, 1, none⟩) (by simp only []; omega)).trans Y_1, (ywE.cell (p := ⟨w1.heap.size + 1, 2, none⟩) (by simp only []; omega)).trans Y_2⟩ (fun hHeld => ?_)
      clear hK9 K9
      try simp only [Act.put, lgA, lgB, lgC, lgD, lgE, lgF]
      refine wpAnyH_ready (rs := [26]) (by kernel_rfl) (by simp) ?_
      refine AllReadyH.cons rfl (fun K9 hK9 => ?_) AllReadyH.nil
      go_simp
      refine (validDp_spec _ _ db x _ (HD.out _ (on hq5 ywE)) (HX.out _ (on hq5 ywE))).mono ?_
      rintro e wF ⟨rfl, yy⟩
      rw [hval]
      have ywF : Below w5.heap.size w5 wF := on ywE yy
      have swF := ywF.size
      clear yy
      refine hK9.out _ _ ⟨(ywF.cell (p := ⟨w1.heap.size, 0, none⟩) (by simp only []; omega)).trans X_0, (ywF.cell (p := ⟨w1.heap.size + 1, 0, none⟩) (by simp only []; omega)).trans Y_0, (ywF.cell (p := ⟨w1.heap.size + 1, 1, none⟩) (by simp only []; omega)).trans Y_1, (ywF.cell (p := ⟨w1.heap.size + 1, 2, none⟩) (by simp only []; omega)).trans Y_2⟩ (fun hHeld => ?_)
      clear hK9 K9
      try simp only [Act.put, lgA, lgB, lgC, lgD, lgE, lgF]
      refine wpAnyH_take (i := 27) (v := ?v27_28) rfl (by kernel_rfl) (by kernel_rfl) (by kernel_rfl) (fun _ _ _ h => h) (Or.inl ⟨by rfl, ?hy27_28⟩) (by assumption) ?rest27_28
      case hy27_28 => intro w hSw; (try dsimp only at hSw); go_simp; (try with_reducible rfl)
      try simp only [Act.put, lgA, lgB, lgC, lgD, lgE, lgF]
      refine wpAnyH_take (i := 28) (v := ?v28_29) rfl (by kernel_rfl) (by kernel_rfl) (by kernel_rfl) (fun _ _ _ h => h) (Or.inl ⟨by rfl, ?hy28_29⟩) (by assumption) ?rest28_29
      case hy28_29 => intro w hSw; (try dsimp only at hSw); go_simp; (try with_reducible rfl)
      try simp only [Act.put, lgA, lgB, lgC, lgD, lgE, lgF]
      refine wpAnyH_done (by kernel_rfl) ?_ _
      refine NoPanic.normal ?_
      go_wp2_with fail
      go_meet
      case rel => exact ⟨rfl, ywF⟩
    · have hzi : ((VL.length : Int) == 0) = false := by rw [beq_eq_false_iff_ne]; omega
      clear hz
      refine wp_region_noPanic ?_
      refine wp_region_held_drew (S := (fun W => W.cell? ⟨w1.heap.size, 0, none⟩ = some (.slice b n c) ∧ W.cell? ⟨w1.heap.size + 1, 0, none⟩ = some (.string nm) ∧ W.cell? ⟨w1.heap.size + 1, 1, none⟩ = some (.slice fb fn fc) ∧ W.cell? ⟨w1.heap.size + 1, 2, none⟩ = some (.int .i64 t))) (by kernel_rfl) ?hS30 (fun hHeld => ?_)
      case hS30 => exact ⟨X_0, Y_0, Y_1, Y_2⟩
      refine wpAnyH_take (i := 0) (v := ?v0_31) rfl (by kernel_rfl) (by kernel_rfl) (by kernel_rfl) (fun _ _ _ h => h) (Or.inl ⟨by rfl, ?hy0_31⟩) (by assumption) ?rest0_31
      case hy0_31 => intro w hSw; (try dsimp only at hSw); go_simp; (try with_reducible rfl)
      try simp only [Act.put, lgA, lgB, lgC, lgD, lgE, lgF]
      refine wpAnyH_take (i := 1) (v := ?v1_32) rfl (by kernel_rfl) (by kernel_rfl) (by kernel_rfl) (fun _ _ _ h => h) (Or.inl ⟨by rfl, ?hy1_32⟩) (by assumption) ?rest1_32
      case hy1_32 => intro w hSw; (try dsimp only at hSw); go_simp; (try with_reducible rfl)
      try simp only [Act.put, lgA, lgB, lgC, lgD, lgE, lgF]
      refine wpAnyH_take (i := 2) (v := ?v2_33) rfl (by kernel_rfl) (by kernel_rfl) (by kernel_rfl) (fun _ _ _ h => h) (Or.inl ⟨by rfl, ?hy2_33⟩) (by assumption) ?rest2_33
      case hy2_33 => intro w hSw; (try dsimp only at hSw); go_simp; (try with_reducible rfl)
      try simp only [Act.put, lgA, lgB, lgC, lgD, lgE, lgF]
      refine wpAnyH_ready (rs := [3]) (by kernel_rfl) (by simp) ?_
      refine AllReadyH.cons rfl (fun K9 hK9 => ?_) AllReadyH.nil
      go_simp
      refine (viol_spec _ _ db x _ (HD.out _ (on hq5 hdr)) (HX.out _ (on hq5 hdr))).mono ?_
      rintro e wA ⟨uA, rfl, oA, yy⟩
      obtain ⟨sb, sn, sc, rfl⟩ := oI_form1 oA
      obtain ⟨hsn, iA⟩ := rI_openE (oA.rd reads_I)
      subst hsn
      rw [hVL] at iA
      simp only [hVL]
      have ywA : Below w5.heap.size w5 wA := on hdr yy
      have swA := ywA.size
      clear yy oA
      refine hK9.out _ _ ⟨(ywA.cell (p := ⟨w1.heap.size, 0, none⟩) (by simp only []; omega)).trans X_0, (ywA.cell (p := ⟨w1.heap.size + 1, 0, none⟩) (by simp only []; omega)).trans Y_0, (ywA.cell (p := ⟨w1.heap.size + 1, 1, none⟩) (by simp only []; omega)).trans Y_1, (ywA.cell (p := ⟨w1.heap.size + 1, 2, none⟩) (by simp only []; omega)).trans Y_2⟩ (fun hHeld => ?_)
      clear hK9 K9
      try simp only [Act.put, lgA, lgB, lgC, lgD, lgE, lgF]
      refine wpAnyH_ready (rs := [4]) (by kernel_rfl) (by simp) ?_
      refine AllReadyH.cons rfl (fun K9 hK9 => ?_) AllReadyH.nil
      go_simp
      refine (sameInts_eq _ _ _ _ _ VL _ (iv.below ywA) iA).mono ?_
      rintro e wB ⟨rfl, yy⟩
      have ywB : Below w5.heap.size w5 wB := on ywA (yy.below _)
      have swB := ywB.size
      clear yy iA
      refine hK9.out _ _ ⟨(ywB.cell (p := ⟨w1.heap.size, 0, none⟩) (by simp only []; omega)).trans X_0, (ywB.cell (p := ⟨w1.heap.size + 1, 0, none⟩) (by simp only []; omega)).trans Y_0, (ywB.cell (p := ⟨w1.heap.size + 1, 1, none⟩) (by simp only []; omega)).trans Y_1, (ywB.cell (p := ⟨w1.heap.size + 1, 2, none⟩) (by simp only []; omega)).trans Y_2⟩ (fun hHeld => ?_)
      clear hK9 K9
      try simp only [Act.put, lgA, lgB, lgC, lgD, lgE, lgF]
      refine wpAnyH_take (i := 5) (v := ?v5_34) rfl (by kernel_rfl) (by kernel_rfl) (by kernel_rfl) (fun _ _ _ h => h) (Or.inl ⟨by rfl, ?hy5_34⟩) (by assumption) ?rest5_34
      case hy5_34 => intro w hSw; (try dsimp only at hSw); go_simp; (try with_reducible rfl)
      try simp only [Act.put, lgA, lgB, lgC, lgD, lgE, lgF]
      refine wpAnyH_take (i := 6) (v := ?v6_35) rfl (by kernel_rfl) (by kernel_rfl) (by kernel_rfl) (fun _ _ _ h => h) (Or.inl ⟨by rfl, ?hy6_35⟩) (by assumption) ?rest6_35
      case hy6_35 => intro w hSw; (try dsimp only at hSw); go_simp; (try with_reducible rfl)
      try simp only [Act.put, lgA, lgB, lgC, lgD, lgE, lgF]
      refine wpAnyH_take (i := 7) (v := ?v7_36) rfl (by kernel_rfl) (by kernel_rfl) (by kernel_rfl) (fun _ _ _ h => h) (Or.inl ⟨by rfl, ?hy7_36⟩) (by assumption) ?rest7_36
      case hy7_36 => intro w hSw; (try dsimp only at hSw); go_simp; (try with_reducible rfl)
      try simp only [Act.put, lgA, lgB, lgC, lgD, lgE, lgF]
      refine wpAnyH_take (i := 8) (v := ?v8_37) rfl (by kernel_rfl) (by kernel_rfl) (by kernel_rfl) (fun _ _ _ h => h) (Or.inl ⟨by rfl, ?hy8_37⟩) (by assumption) ?rest8_37
      case hy8_37 => intro w hSw; (try dsimp only at hSw); go_simp; (try with_reducible rfl)
      try simp only [Act.put, lgA, lgB, lgC, lgD, lgE, lgF]
      refine wpAnyH_take (i := 10) (v := ?v10_38) rfl (by kernel_rfl) (by kernel_rfl) (by kernel_rfl) (fun _ _ _ h => h) (Or.inl ⟨by rfl, ?hy10_38⟩) (by assumption) ?rest10_38
      case hy10_38 => intro w hSw; (try dsimp only at hSw); go_simp; (try with_reducible rfl)
      try simp only [Act.put, lgA, lgB, lgC, lgD, lgE, lgF]
      refine wpAnyH_take (i := 11) (v := ?v11_39) rfl (by kernel_rfl) (by kernel_rfl) (by kernel_rfl) (fun _ _ _ h => h) (Or.inl ⟨by rfl, ?hy11_39⟩) (by assumption) ?rest11_39
      case hy11_39 => intro w hSw; (try dsimp only at hSw); go_simp; (try with_reducible rfl)
      try simp only [Act.put, lgA, lgB, lgC, lgD, lgE, lgF]
      refine wpAnyH_ready (rs := [9]) (by kernel_rfl) (by simp) ?_
      refine AllReadyH.cons rfl (fun K9 hK9 => ?_) AllReadyH.nil
      go_simp
      refine (holdsDp_impl _ _ db x _ (HD.out _ (on hq5 ywB)) (HX.out _ (on hq5 ywB))).mono ?_
      rintro e wC ⟨rfl, yy⟩
      rw [hhold]
      have ywC : Below w5.heap.size w5 wC := on ywB yy
      have swC := ywC.size
      clear yy
      refine hK9.out _ _ ⟨(ywC.cell (p := ⟨w1.heap.size, 0, none⟩) (by simp only []; omega)).trans X_0, (ywC.cell (p := ⟨w1.heap.size + 1, 0, none⟩) (by simp only []; omega)).trans Y_0, (ywC.cell (p := ⟨w1.heap.size + 1, 1, none⟩) (by simp only []; omega)).trans Y_1, (ywC.cell (p := ⟨w1.heap.size + 1, 2, none⟩) (by simp only []; omega)).trans Y_2⟩ (fun hHeld => ?_)
      clear hK9 K9
      try simp only [Act.put, lgA, lgB, lgC, lgD, lgE, lgF]
      refine wpAnyH_ready (rs := [12]) (by kernel_rfl) (by simp) ?_
      refine AllReadyH.cons rfl (fun K9 hK9 => ?_) AllReadyH.nil
      go_simp
      refine (validDp_spec _ _ db x _ (HD.out _ (on hq5 ywC)) (HX.out _ (on hq5 ywC))).mono ?_
      rintro e wD ⟨rfl, yy⟩
      rw [hval]
      have ywD : Below w5.heap.size w5 wD := on ywC yy
      have swD := ywD.size
      clear yy
      refine hK9.out _ _ ⟨(ywD.cell (p := ⟨w1.heap.size, 0, none⟩) (by simp only []; omega)).trans X_0, (ywD.cell (p := ⟨w1.heap.size + 1, 0, none⟩) (by simp only []; omega)).trans Y_0, (ywD.cell (p := ⟨w1.heap.size + 1, 1, none⟩) (by simp only []; omega)).trans Y_1, (ywD.cell (p := ⟨w1.heap.size + 1, 2, none⟩) (by simp only []; omega)).trans Y_2⟩ (fun hHeld => ?_)
      clear hK9 K9
      try simp only [Act.put, lgA, lgB, lgC, lgD, lgE, lgF]
      refine wpAnyH_take (i := 13) (v := ?v13_40) rfl (by kernel_rfl) (by kernel_rfl) (by kernel_rfl) (fun _ _ _ h => h) (Or.inl ⟨by rfl, ?hy13_40⟩) (by assumption) ?rest13_40
      case hy13_40 => intro w hSw; (try dsimp only at hSw); go_simp; (try with_reducible rfl)
      try simp only [Act.put, lgA, lgB, lgC, lgD, lgE, lgF]
      refine wpAnyH_take (i := 14) (v := ?v14_41) rfl (by kernel_rfl) (by kernel_rfl) (by kernel_rfl) (fun _ _ _ h => h) (Or.inl ⟨by rfl, ?hy14_41⟩) (by assumption) ?rest14_41
      case hy14_41 => intro w hSw; (try dsimp only at hSw); go_simp; (try with_reducible rfl)
      try simp only [Act.put, lgA, lgB, lgC, lgD, lgE, lgF]
      refine wpAnyH_take (i := 15) (v := ?v15_42) rfl (by kernel_rfl) (by kernel_rfl) (by kernel_rfl) (fun _ _ _ h => h) (Or.inl ⟨by rfl, ?hy15_42⟩) (by assumption) ?rest15_42
      case hy15_42 => intro w hSw; (try dsimp only at hSw); go_simp; (try with_reducible rfl)
      try simp only [Act.put, lgA, lgB, lgC, lgD, lgE, lgF]
      refine wpAnyH_take (i := 16) (v := ?v16_43) rfl (by kernel_rfl) (by kernel_rfl) (by kernel_rfl) (fun _ _ _ h => h) (Or.inl ⟨by rfl, ?hy16_43⟩) (by assumption) ?rest16_43
      case hy16_43 => intro w hSw; (try dsimp only at hSw); go_simp; (try with_reducible rfl)
      try simp only [Act.put, lgA, lgB, lgC, lgD, lgE, lgF]
      refine wpAnyH_take (i := 17) (v := ?v17_44) rfl (by kernel_rfl) (by kernel_rfl) (by kernel_rfl) (fun _ _ _ h => h) (Or.inl ⟨by rfl, ?hy17_44⟩) (by assumption) ?rest17_44
      case hy17_44 => intro w hSw; (try dsimp only at hSw); go_simp; (try with_reducible rfl)
      try simp only [Act.put, lgA, lgB, lgC, lgD, lgE, lgF]
      refine wpAnyH_take (i := 18) (v := ?v18_45) rfl (by kernel_rfl) (by kernel_rfl) (by kernel_rfl) (fun _ _ _ h => h) (Or.inl ⟨by rfl, ?hy18_45⟩) (by assumption) ?rest18_45
      case hy18_45 => intro w hSw; (try dsimp only at hSw); go_simp; (try with_reducible rfl)
      try simp only [Act.put, lgA, lgB, lgC, lgD, lgE, lgF]
      refine wpAnyH_take (i := 19) (v := ?v19_46) rfl (by kernel_rfl) (by kernel_rfl) (by kernel_rfl) (fun _ _ _ h => h) (Or.inl ⟨by rfl, ?hy19_46⟩) (by assumption) ?rest19_46
      case hy19_46 => intro w hSw; (try dsimp only at hSw); go_simp; (try with_reducible rfl)
      try simp only [Act.put, lgA, lgB, lgC, lgD, lgE, lgF]
      refine wpAnyH_take (i := 20) (v := ?v20_47) rfl (by kernel_rfl) (by kernel_rfl) (by kernel_rfl) (fun _ _ _ h => h) (Or.inl ⟨by rfl, ?hy20_47⟩) (by assumption) ?rest20_47
      case hy20_47 => intro w hSw; (try dsimp only at hSw); go_simp; (try with_reducible rfl)
      try simp only [Act.put, lgA, lgB, lgC, lgD, lgE, lgF]
      refine wpAnyH_take (i := 21) (v := ?v21_48) rfl (by kernel_rfl) (by kernel_rfl) (by kernel_rfl) (fun _ _ _ h => h) (Or.inl ⟨by rfl, ?hy21_48⟩) (by assumption) ?rest21_48
      case hy21_48 => intro w hSw; (try dsimp only at hSw); go_simp; (try with_reducible rfl)
      try simp only [Act.put, lgA, lgB, lgC, lgD, lgE, lgF]
      refine wpAnyH_take (i := 22) (v := ?v22_49) rfl (by kernel_rfl) (by kernel_rfl) (by kernel_rfl) (fun _ _ _ h => h) (Or.inl ⟨by rfl, ?hy22_49⟩) (by assumption) ?rest22_49
      case hy22_49 => intro w hSw; (try dsimp only at hSw); go_simp; (try with_reducible rfl)
      try simp only [Act.put, lgA, lgB, lgC, lgD, lgE, lgF]
      refine wpAnyH_take (i := 24) (v := ?v24_50) rfl (by kernel_rfl) (by kernel_rfl) (by kernel_rfl) (fun _ _ _ h => h) (Or.inl ⟨by rfl, ?hy24_50⟩) (by assumption) ?rest24_50
      case hy24_50 => intro w hSw; (try dsimp only at hSw); go_simp; (try with_reducible rfl)
      try simp only [Act.put, lgA, lgB, lgC, lgD, lgE, lgF]
      refine wpAnyH_take (i := 25) (v := ?v25_51) rfl (by kernel_rfl) (by kernel_rfl) (by kernel_rfl) (fun _ _ _ h => h) (Or.inl ⟨by rfl, ?hy25_51⟩) (by assumption) ?rest25_51
      case hy25_51 => intro w hSw; (try dsimp only at hSw); go_simp; (try with_reducible rfl)
      try simp only [Act.put, lgA, lgB, lgC, lgD, lgE, lgF]
      refine wpAnyH_ready (rs := [23]) (by kernel_rfl) (by simp) ?_
      refine AllReadyH.cons rfl (fun K9 hK9 => ?_) AllReadyH.nil
      go_simp
      refine (validDp_impl _ _ db x _ (HD.out _ (on hq5 ywD)) (HX.out _ (on hq5 ywD))).mono ?_
      rintro e wE ⟨rfl, yy⟩
      rw [hval]
      have ywE : Below w5.heap.size w5 wE := on ywD yy
      have swE := ywE.size
      clear yy
      refine hK9.out _ _ ⟨(ywE.cell (p := ⟨w1.heap.size, 0, none⟩) (by simp only []; omega)).trans X_0, (ywE.cell (p := ⟨w1.heap.size + 1, 0, none⟩) (by simp only []; omega)).trans Y_0, (ywE.cell (p := ⟨w1.heap.size + 1, 1, none⟩) (by simp only []; omega)).trans Y_1, (ywE.cell (p := ⟨w1.heap.size + 1, 2, none⟩) (by simp only []; omega)).trans Y_2⟩ (fun hHeld => ?_)
      clear hK9 K9
      try simp only [Act.put, lgA, lgB, lgC, lgD, lgE, lgF]
      refine wpAnyH_ready (rs := [26]) (by kernel_rfl) (by simp) ?_
      refine AllReadyH.cons rfl (fun K9 hK9 => ?_) AllReadyH.nil
      go_simp
      refine (validDp_spec _ _ db x _ (HD.out _ (on hq5 ywE)) (HX.out _ (on hq5 ywE))).mono ?_
      rintro e wF ⟨rfl, yy⟩
      rw [hval]
      have ywF : Below w5.heap.size w5 wF := on ywE yy
      have swF := ywF.size
      clear yy
      refine hK9.out _ _ ⟨(ywF.cell (p := ⟨w1.heap.size, 0, none⟩) (by simp only []; omega)).trans X_0, (ywF.cell (p := ⟨w1.heap.size + 1, 0, none⟩) (by simp only []; omega)).trans Y_0, (ywF.cell (p := ⟨w1.heap.size + 1, 1, none⟩) (by simp only []; omega)).trans Y_1, (ywF.cell (p := ⟨w1.heap.size + 1, 2, none⟩) (by simp only []; omega)).trans Y_2⟩ (fun hHeld => ?_)
      clear hK9 K9
      try simp only [Act.put, lgA, lgB, lgC, lgD, lgE, lgF]
      refine wpAnyH_take (i := 27) (v := ?v27_52) rfl (by kernel_rfl) (by kernel_rfl) (by kernel_rfl) (fun _ _ _ h => h) (Or.inl ⟨by rfl, ?hy27_52⟩) (by assumption) ?rest27_52
      case hy27_52 => intro w hSw; (try dsimp only at hSw); go_simp; (try with_reducible rfl)
      try simp only [Act.put, lgA, lgB, lgC, lgD, lgE, lgF]
      refine wpAnyH_take (i := 28) (v := ?v28_53) rfl (by kernel_rfl) (by kernel_rfl) (by kernel_rfl) (fun _ _ _ h => h) (Or.inl ⟨by rfl, ?hy28_53⟩) (by assumption) ?rest28_53
      case hy28_53 => intro w hSw; (try dsimp only at hSw); go_simp; (try with_reducible rfl)
      try simp only [Act.put, lgA, lgB, lgC, lgD, lgE, lgF]
      refine wpAnyH_done (by kernel_rfl) ?_ _
      refine NoPanic.normal ?_
      go_wp2_with fail
      go_meet
      case rel => exact ⟨rfl, ywF⟩
    · have hzi : ((VL.length : Int) == 0) = true := by rw [beq_iff_eq]; omega
      clear hz
      refine wp_region_noPanic ?_
      refine wp_region_held_drew (S := (fun W => W.cell? ⟨w1.heap.size, 0, none⟩ = some (.slice b n c) ∧ W.cell? ⟨w1.heap.size + 1, 0, none⟩ = some (.string nm) ∧ W.cell? ⟨w1.heap.size + 1, 1, none⟩ = some (.slice fb fn fc) ∧ W.cell? ⟨w1.heap.size + 1, 2, none⟩ = some (.int .i64 t))) (by kernel_rfl) ?hS54 (fun hHeld => ?_)
      case hS54 => exact ⟨X_0, Y_0, Y_1, Y_2⟩
      refine wpAnyH_take (i := 0) (v := ?v0_55) rfl (by kernel_rfl) (by kernel_rfl) (by kernel_rfl) (fun _ _ _ h => h) (Or.inl ⟨by rfl, ?hy0_55⟩) (by assumption) ?rest0_55
      case hy0_55 => intro w hSw; (try dsimp only at hSw); go_simp; (try with_reducible rfl)
      try simp only [Act.put, lgA, lgB, lgC, lgD, lgE, lgF]
      refine wpAnyH_take (i := 1) (v := ?v1_56) rfl (by kernel_rfl) (by kernel_rfl) (by kernel_rfl) (fun _ _ _ h => h) (Or.inl ⟨by rfl, ?hy1_56⟩) (by assumption) ?rest1_56
      case hy1_56 => intro w hSw; (try dsimp only at hSw); go_simp; (try with_reducible rfl)
      try simp only [Act.put, lgA, lgB, lgC, lgD, lgE, lgF]
      refine wpAnyH_take (i := 2) (v := ?v2_57) rfl (by kernel_rfl) (by kernel_rfl) (by kernel_rfl) (fun _ _ _ h => h) (Or.inl ⟨by rfl, ?hy2_57⟩) (by assumption) ?rest2_57
      case hy2_57 => intro w hSw; (try dsimp only at hSw); go_simp; (try with_reducible rfl)
      try simp only [Act.put, lgA, lgB, lgC, lgD, lgE, lgF]
      refine wpAnyH_ready (rs := [3]) (by kernel_rfl) (by simp) ?_
      refine AllReadyH.cons rfl (fun K9 hK9 => ?_) AllReadyH.nil
      go_simp
      refine (viol_spec _ _ db x _ (HD.out _ (on hq5 hdr)) (HX.out _ (on hq5 hdr))).mono ?_
      rintro e wA ⟨uA, rfl, oA, yy⟩
      obtain ⟨sb, sn, sc, rfl⟩ := oI_form1 oA
      obtain ⟨hsn, iA⟩ := rI_openE (oA.rd reads_I)
      subst hsn
      rw [hVL] at iA
      simp only [hVL]
      have ywA : Below w5.heap.size w5 wA := on hdr yy
      have swA := ywA.size
      clear yy oA
      refine hK9.out _ _ ⟨(ywA.cell (p := ⟨w1.heap.size, 0, none⟩) (by simp only []; omega)).trans X_0, (ywA.cell (p := ⟨w1.heap.size + 1, 0, none⟩) (by simp only []; omega)).trans Y_0, (ywA.cell (p := ⟨w1.heap.size + 1, 1, none⟩) (by simp only []; omega)).trans Y_1, (ywA.cell (p := ⟨w1.heap.size + 1, 2, none⟩) (by simp only []; omega)).trans Y_2⟩ (fun hHeld => ?_)
      clear hK9 K9
      try simp only [Act.put, lgA, lgB, lgC, lgD, lgE, lgF]
      refine wpAnyH_ready (rs := [4]) (by kernel_rfl) (by simp) ?_
      refine AllReadyH.cons rfl (fun K9 hK9 => ?_) AllReadyH.nil
      go_simp
      refine (sameInts_eq _ _ _ _ _ VL _ (iv.below ywA) iA).mono ?_
      rintro e wB ⟨rfl, yy⟩
      have ywB : Below w5.heap.size w5 wB := on ywA (yy.below _)
      have swB := ywB.size
      clear yy iA
      refine hK9.out _ _ ⟨(ywB.cell (p := ⟨w1.heap.size, 0, none⟩) (by simp only []; omega)).trans X_0, (ywB.cell (p := ⟨w1.heap.size + 1, 0, none⟩) (by simp only []; omega)).trans Y_0, (ywB.cell (p := ⟨w1.heap.size + 1, 1, none⟩) (by simp only []; omega)).trans Y_1, (ywB.cell (p := ⟨w1.heap.size + 1, 2, none⟩) (by simp only []; omega)).trans Y_2⟩ (fun hHeld => ?_)
      clear hK9 K9
      try simp only [Act.put, lgA, lgB, lgC, lgD, lgE, lgF]
      refine wpAnyH_take (i := 5) (v := ?v5_58) rfl (by kernel_rfl) (by kernel_rfl) (by kernel_rfl) (fun _ _ _ h => h) (Or.inl ⟨by rfl, ?hy5_58⟩) (by assumption) ?rest5_58
      case hy5_58 => intro w hSw; (try dsimp only at hSw); go_simp; (try with_reducible rfl)
      try simp only [Act.put, lgA, lgB, lgC, lgD, lgE, lgF]
      refine wpAnyH_take (i := 6) (v := ?v6_59) rfl (by kernel_rfl) (by kernel_rfl) (by kernel_rfl) (fun _ _ _ h => h) (Or.inl ⟨by rfl, ?hy6_59⟩) (by assumption) ?rest6_59
      case hy6_59 => intro w hSw; (try dsimp only at hSw); go_simp; (try with_reducible rfl)
      try simp only [Act.put, lgA, lgB, lgC, lgD, lgE, lgF]
      refine wpAnyH_take (i := 7) (v := ?v7_60) rfl (by kernel_rfl) (by kernel_rfl) (by kernel_rfl) (fun _ _ _ h => h) (Or.inl ⟨by rfl, ?hy7_60⟩) (by assumption) ?rest7_60
      case hy7_60 => intro w hSw; (try dsimp only at hSw); go_simp; (try with_reducible rfl)
      try simp only [Act.put, lgA, lgB, lgC, lgD, lgE, lgF]
      refine wpAnyH_take (i := 8) (v := ?v8_61) rfl (by kernel_rfl) (by kernel_rfl) (by kernel_rfl) (fun _ _ _ h => h) (Or.inl ⟨by rfl, ?hy8_61⟩) (by assumption) ?rest8_61
      case hy8_61 => intro w hSw; (try dsimp only at hSw); go_simp; (try with_reducible rfl)
      try simp only [Act.put, lgA, lgB, lgC, lgD, lgE, lgF]
      refine wpAnyH_take (i := 10) (v := ?v10_62) rfl (by kernel_rfl) (by kernel_rfl) (by kernel_rfl) (fun _ _ _ h => h) (Or.inl ⟨by rfl, ?hy10_62⟩) (by assumption) ?rest10_62
      case hy10_62 => intro w hSw; (try dsimp only at hSw); go_simp; (try with_reducible rfl)
      try simp only [Act.put, lgA, lgB, lgC, lgD, lgE, lgF]
      refine wpAnyH_take (i := 11) (v := ?v11_63) rfl (by kernel_rfl) (by kernel_rfl) (by kernel_rfl) (fun _ _ _ h => h) (Or.inl ⟨by rfl, ?hy11_63⟩) (by assumption) ?rest11_63
      case hy11_63 => intro w hSw; (try dsimp only at hSw); go_simp; (try with_reducible rfl)
      try simp only [Act.put, lgA, lgB, lgC, lgD, lgE, lgF]
      refine wpAnyH_ready (rs := [9]) (by kernel_rfl) (by simp) ?_
      refine AllReadyH.cons rfl (fun K9 hK9 => ?_) AllReadyH.nil
      go_simp
      refine (holdsDp_impl _ _ db x _ (HD.out _ (on hq5 ywB)) (HX.out _ (on hq5 ywB))).mono ?_
      rintro e wC ⟨rfl, yy⟩
      rw [hhold]
      have ywC : Below w5.heap.size w5 wC := on ywB yy
      have swC := ywC.size
      clear yy
      refine hK9.out _ _ ⟨(ywC.cell (p := ⟨w1.heap.size, 0, none⟩) (by simp only []; omega)).trans X_0, (ywC.cell (p := ⟨w1.heap.size + 1, 0, none⟩) (by simp only []; omega)).trans Y_0, (ywC.cell (p := ⟨w1.heap.size + 1, 1, none⟩) (by simp only []; omega)).trans Y_1, (ywC.cell (p := ⟨w1.heap.size + 1, 2, none⟩) (by simp only []; omega)).trans Y_2⟩ (fun hHeld => ?_)
      clear hK9 K9
      try simp only [Act.put, lgA, lgB, lgC, lgD, lgE, lgF]
      refine wpAnyH_ready (rs := [12]) (by kernel_rfl) (by simp) ?_
      refine AllReadyH.cons rfl (fun K9 hK9 => ?_) AllReadyH.nil
      go_simp
      refine (validDp_spec _ _ db x _ (HD.out _ (on hq5 ywC)) (HX.out _ (on hq5 ywC))).mono ?_
      rintro e wD ⟨rfl, yy⟩
      rw [hval]
      have ywD : Below w5.heap.size w5 wD := on ywC yy
      have swD := ywD.size
      clear yy
      refine hK9.out _ _ ⟨(ywD.cell (p := ⟨w1.heap.size, 0, none⟩) (by simp only []; omega)).trans X_0, (ywD.cell (p := ⟨w1.heap.size + 1, 0, none⟩) (by simp only []; omega)).trans Y_0, (ywD.cell (p := ⟨w1.heap.size + 1, 1, none⟩) (by simp only []; omega)).trans Y_1, (ywD.cell (p := ⟨w1.heap.size + 1, 2, none⟩) (by simp only []; omega)).trans Y_2⟩ (fun hHeld => ?_)
      clear hK9 K9
      try simp only [Act.put, lgA, lgB, lgC, lgD, lgE, lgF]
      refine wpAnyH_take (i := 13) (v := ?v13_64) rfl (by kernel_rfl) (by kernel_rfl) (by kernel_rfl) (fun _ _ _ h => h) (Or.inl ⟨by rfl, ?hy13_64⟩) (by assumption) ?rest13_64
      case hy13_64 => intro w hSw; (try dsimp only at hSw); go_simp; (try with_reducible rfl)
      try simp only [Act.put, lgA, lgB, lgC, lgD, lgE, lgF]
      refine wpAnyH_take (i := 14) (v := undef) rfl (by kernel_rfl) (by kernel_rfl) (by kernel_rfl) (fun _ _ _ h => h) (Or.inr ⟨by rfl, rfl⟩) (by assumption) ?_
      try simp only [Act.put, lgA, lgB, lgC, lgD, lgE, lgF]
      refine wpAnyH_take (i := 15) (v := undef) rfl (by kernel_rfl) (by kernel_rfl) (by kernel_rfl) (fun _ _ _ h => h) (Or.inr ⟨by rfl, rfl⟩) (by assumption) ?_
      try simp only [Act.put, lgA, lgB, lgC, lgD, lgE, lgF]
      refine wpAnyH_take (i := 16) (v := undef) rfl (by kernel_rfl) (by kernel_rfl) (by kernel_rfl) (fun _ _ _ h => h) (Or.inr ⟨by rfl, rfl⟩) (by assumption) ?_
      try simp only [Act.put, lgA, lgB, lgC, lgD, lgE, lgF]
      refine wpAnyH_take (i := 17) (v := ?v17_65) rfl (by kernel_rfl) (by kernel_rfl) (by kernel_rfl) (fun _ _ _ h => h) (Or.inl ⟨by rfl, ?hy17_65⟩) (by assumption) ?rest17_65
      case hy17_65 => intro w hSw; (try dsimp only at hSw); go_simp; (try with_reducible rfl)
      try simp only [Act.put, lgA, lgB, lgC, lgD, lgE, lgF]
      refine wpAnyH_take (i := 18) (v := ?v18_66) rfl (by kernel_rfl) (by kernel_rfl) (by kernel_rfl) (fun _ _ _ h => h) (Or.inl ⟨by rfl, ?hy18_66⟩) (by assumption) ?rest18_66
      case hy18_66 => intro w hSw; (try dsimp only at hSw); go_simp; (try with_reducible rfl)
      try simp only [Act.put, lgA, lgB, lgC, lgD, lgE, lgF]
      refine wpAnyH_take (i := 19) (v := ?v19_67) rfl (by kernel_rfl) (by kernel_rfl) (by kernel_rfl) (fun _ _ _ h => h) (Or.inl ⟨by rfl, ?hy19_67⟩) (by assumption) ?rest19_67
      case hy19_67 => intro w hSw; (try dsimp only at hSw); go_simp; (try with_reducible rfl)
      try simp only [Act.put, lgA, lgB, lgC, lgD, lgE, lgF]
      refine wpAnyH_take (i := 20) (v := ?v20_68) rfl (by kernel_rfl) (by kernel_rfl) (by kernel_rfl) (fun _ _ _ h => h) (Or.inl ⟨by rfl, ?hy20_68⟩) (by assumption) ?rest20_68
      case hy20_68 => intro w hSw; (try dsimp only at hSw); go_simp; (try with_reducible rfl)
      try simp only [Act.put, lgA, lgB, lgC, lgD, lgE, lgF]
      refine wpAnyH_take (i := 21) (v := ?v21_69) rfl (by kernel_rfl) (by kernel_rfl) (by kernel_rfl) (fun _ _ _ h => h) (Or.inl ⟨by rfl, ?hy21_69⟩) (by assumption) ?rest21_69
      case hy21_69 => intro w hSw; (try dsimp only at hSw); go_simp; (try with_reducible rfl)
      try simp only [Act.put, lgA, lgB, lgC, lgD, lgE, lgF]
      refine wpAnyH_take (i := 22) (v := ?v22_70) rfl (by kernel_rfl) (by kernel_rfl) (by kernel_rfl) (fun _ _ _ h => h) (Or.inl ⟨by rfl, ?hy22_70⟩) (by assumption) ?rest22_70
      case hy22_70 => intro w hSw; (try dsimp only at hSw); go_simp; (try with_reducible rfl)
      try simp only [Act.put, lgA, lgB, lgC, lgD, lgE, lgF]
      refine wpAnyH_take (i := 24) (v := ?v24_71) rfl (by kernel_rfl) (by kernel_rfl) (by kernel_rfl) (fun _ _ _ h => h) (Or.inl ⟨by rfl, ?hy24_71⟩) (by assumption) ?rest24_71
      case hy24_71 => intro w hSw; (try dsimp only at hSw); go_simp; (try with_reducible rfl)
      try simp only [Act.put, lgA, lgB, lgC, lgD, lgE, lgF]
      refine wpAnyH_take (i := 25) (v := ?v25_72) rfl (by kernel_rfl) (by kernel_rfl) (by kernel_rfl) (fun _ _ _ h => h) (Or.inl ⟨by rfl, ?hy25_72⟩) (by assumption) ?rest25_72
      case hy25_72 => intro w hSw; (try dsimp only at hSw); go_simp; (try with_reducible rfl)
      try simp only [Act.put, lgA, lgB, lgC, lgD, lgE, lgF]
      refine wpAnyH_ready (rs := [23]) (by kernel_rfl) (by simp) ?_
      refine AllReadyH.cons rfl (fun K9 hK9 => ?_) AllReadyH.nil
      go_simp
      refine (validDp_impl _ _ db x _ (HD.out _ (on hq5 ywD)) (HX.out _ (on hq5 ywD))).mono ?_
      rintro e wE ⟨rfl, yy⟩
      rw [hval]
      have ywE : Below w5.heap.size w5 wE := on ywD yy
      have swE := ywE.size
      clear yy
      refine hK9.out _ _ ⟨(ywE.cell (p := ⟨w1.heap.size, 0, none⟩) (by simp only []; omega)).trans X_0, (ywE.cell (p := ⟨w1.heap.size + 1, 0, none⟩) (by simp only []; omega)).trans Y_0, (ywE.cell (p := ⟨w1.heap.size + 1, 1, none⟩) (by simp only []; omega)).trans Y_1, (ywE.cell (p := ⟨w1.heap.size + 1, 2, none⟩) (by simp only []; omega)).trans Y_2⟩ (fun hHeld => ?_)
      clear hK9 K9
      try simp only [Act.put, lgA, lgB, lgC, lgD, lgE, lgF]
      refine wpAnyH_ready (rs := [26]) (by kernel_rfl) (by simp) ?_
      refine AllReadyH.cons rfl (fun K9 hK9 => ?_) AllReadyH.nil
      go_simp
      refine (validDp_spec _ _ db x _ (HD.out _ (on hq5 ywE)) (HX.out _ (on hq5 ywE))).mono ?_
      rintro e wF ⟨rfl, yy⟩
      rw [hval]
      have ywF : Below w5.heap.size w5 wF := on ywE yy
      have swF := ywF.size
      clear yy
      refine hK9.out _ _ ⟨(ywF.cell (p := ⟨w1.heap.size, 0, none⟩) (by simp only []; omega)).trans X_0, (ywF.cell (p := ⟨w1.heap.size + 1, 0, none⟩) (by simp only []; omega)).trans Y_0, (ywF.cell (p := ⟨w1.heap.size + 1, 1, none⟩) (by simp only []; omega)).trans Y_1, (ywF.cell (p := ⟨w1.heap.size + 1, 2, none⟩) (by simp only []; omega)).trans Y_2⟩ (fun hHeld => ?_)
      clear hK9 K9
      try simp only [Act.put, lgA, lgB, lgC, lgD, lgE, lgF]
      refine wpAnyH_take (i := 27) (v := ?v27_73) rfl (by kernel_rfl) (by kernel_rfl) (by kernel_rfl) (fun _ _ _ h => h) (Or.inl ⟨by rfl, ?hy27_73⟩) (by assumption) ?rest27_73
      case hy27_73 => intro w hSw; (try dsimp only at hSw); go_simp; (try with_reducible rfl)
      try simp only [Act.put, lgA, lgB, lgC, lgD, lgE, lgF]
      refine wpAnyH_take (i := 28) (v := ?v28_74) rfl (by kernel_rfl) (by kernel_rfl) (by kernel_rfl) (fun _ _ _ h => h) (Or.inl ⟨by rfl, ?hy28_74⟩) (by assumption) ?rest28_74
      case hy28_74 => intro w hSw; (try dsimp only at hSw); go_simp; (try with_reducible rfl)
      try simp only [Act.put, lgA, lgB, lgC, lgD, lgE, lgF]
      refine wpAnyH_done (by kernel_rfl) ?_ _
      refine NoPanic.normal ?_
      go_wp2_with fail
      go_meet
      case rel => exact ⟨rfl, ywF⟩
  case rest =>
    obtain ⟨rfl, zc⟩ := hcut
    have hbc : Below w.heap.size w wc := on hb5 zc
    clear HD HX hbq hqv hq5 zc HVL HV3
    clear iv X_0 Y_0 Y_1 Y_2
    try clear swF
    try clear ywF
    try clear swE
    try clear ywE
    try clear swD
    try clear ywD
    try clear swC
    try clear ywC
    try clear swB
    try clear ywB
    try clear swA
    try clear ywA
    try clear yy
    try clear hq5
    try clear hqv
    try clear hb5
    try clear s5
    try clear zv
    try clear hbq
    try clear e4
    try clear hb4
    try clear s4
    try clear z4
    try clear hb3
    try clear s3
    try clear z3
    try clear hb2
    try clear s2
    try clear z1
    try clear e9
    try clear hb0
    go_wp2_with fail
    refine (drawClo_any _ ba bn bc hbn (bytes_at' HBY.out hbc)).mono ?_
    rintro e w75 ⟨lb, ln, lc, ds, nm2, xb, xn, xc, cs, rfl, rl, hds, rc, z75⟩
    have s76 := z75.size
    have hb76 := on hbc z75
    have hbk := small_bulk hds
    clear hds
    obtain ⟨w7, rfl⟩ : ∃ W, W = w75 := ⟨_, rfl⟩
    have HL := Lib.hid (fun W (hW : Below w7.heap.size w7 W) => rDl.mono rl hW)
    have HC := Lib.hid (fun W (hW : Below w7.heap.size w7 W) => rI.mono rc hW)
    clear rl rc
    go_wp2_with fail
    have hq7 : Below w7.heap.size w7 w7 := Below.refl _ _
    refine (closure_impl' _ _ ds nm2 cs _ (HL.out _ hq7) (HC.out _ hq7) hbk).mono ?_
    rintro e wx ⟨ux, rfl, ox, zx⟩
    obtain ⟨ub, un, uc, rfl⟩ := oI_form1 ox
    have rxx := ox.rd reads_I
    obtain ⟨hun, ix⟩ := rI_openE rxx
    subst hun
    clear ox
    have hidem := closure_idem ds nm2 cs
    obtain ⟨CL, hCL⟩ : ∃ q, closure ds nm2 cs = q := ⟨_, rfl⟩
    rw [hCL] at rxx ix hidem
    simp only [hCL]
    have HCL := Lib.hid hCL
    have HID := Lib.hid hidem
    clear hCL hidem
    have s77 := zx.size
    have hb77 := on hb76 zx
    have hqx := zx
    have HU := Lib.hid (fun W (hW : Below wx.heap.size wx W) => rI.mono rxx hW)
    clear rxx
    go_wp2_with fail
    refine (closure_spec' _ _ ds nm2 cs _ (HL.out _ hqx) (HC.out _ hqx)).mono ?_
    rintro e wy ⟨uy, rfl, oy, zy⟩
    obtain ⟨yb, yn, yc, rfl⟩ := oI_form1 oy
    obtain ⟨hyn, iy⟩ := rI_openE (oy.rd reads_I)
    subst hyn
    rw [HCL.out] at iy
    simp only [HCL.out]
    clear oy
    have s78 := zy.size
    have hb78 := on hb77 zy
    replace ix := ix.below zy
    have hqy := on hqx zy
    have huy := zy
    go_wp2_with fail
    refine (sameInts_eq _ _ _ _ _ CL _ ix iy).mono ?_
    rintro e wz ⟨rfl, zz0⟩
    have zz : Below wy.heap.size wy wz := zz0.below _
    clear zz0
    clear iy
    have s79 := zz.size
    have hb79 := on hb78 zz
    replace ix := ix.below zz
    have hqz := on hqy zz
    have huz := on huy zz
    go_wp2_with fail
    refine (closure_impl' _ _ ds nm2 CL _ (HL.out _ hqz) (HU.out _ huz) hbk).mono ?_
    rintro e wp ⟨up, rfl, op, zp⟩
    obtain ⟨pb, pn, pc, rfl⟩ := oI_form1 op
    obtain ⟨hpn, ip⟩ := rI_openE (op.rd reads_I)
    subst hpn
    rw [HID.out] at ip
    simp only [HID.out]
    clear op
    have s80 := zp.size
    have hb80 := on hb79 zp
    replace ix := ix.below zp
    go_wp2_with fail
    refine (sameInts_eq _ _ _ _ _ CL _ ip ix).mono ?_
    rintro e wr8 ⟨rfl, zr0⟩
    have zr : Below wp.heap.size wp wr8 := zr0.below _
    clear zr0 HL HC HU HCL HID hqx hqy hqz huy huz hbk hq7
    clear ip ix
    have s81 := zr.size
    have hb81 := on hb80 zr
    obtain ⟨w11, rfl⟩ : ∃ W, W = wr8 := ⟨_, rfl⟩
    have hb11 := hb81
    try clear hb81
    try clear s81
    try clear zr
    try clear zr0
    try clear hb80
    try clear s80
    try clear zp
    try clear hqz
    try clear hb79
    try clear s79
    try clear zz
    try clear zz0
    try clear hqy
    try clear hb78
    try clear s78
    try clear zy
    try clear hqx
    try clear hb77
    try clear s77
    try clear zx
    try clear hq7
    try clear hbk
    try clear hb76
    try clear s76
    try clear z75
    try clear hbc
    try clear swF
    try clear ywF
    try clear swE
    try clear ywE
    try clear swD
    try clear ywD
    try clear swC
    try clear ywC
    try clear swB
    try clear ywB
    try clear swA
    try clear ywA
    try clear yy
    try clear hq5
    try clear hqv
    try clear hb5
    try clear s5
    try clear zv
    try clear hbq
    try clear e4
    try clear hb4
    try clear s4
    try clear z4
    try clear hb3
    try clear s3
    try clear z3
    try clear hb2
    try clear s2
    try clear z1
    try clear e9
    try clear hb0
    go_wp2_with fail
    refine (drawMinKeys_any _ ba bn bc hbn (bytes_at' HBY.out hb11)).mono ?_
    rintro e w82 ⟨kb, kn, kc, es, nm3, A, tb, tn, tc, rows, rfl, rl, hds, rt, z82⟩
    have s83 := z82.size
    have hb83 := on hb11 z82
    have hbk := small_bulk hds
    clear hds
    obtain ⟨w84, hw84⟩ : ∃ W, W = w82.alloc (.cells #[.string nm3, .int .i64 A, .slice tb tn tc] 41) := ⟨_, rfl⟩
    have z84 : Below w82.heap.size w82 w84 := by rw [hw84]; exact (Below.refl _ _).alloc (Nat.le_refl _) _
    have s84 : w84.heap.size = w82.heap.size + 1 := by rw [hw84]; simp
    have hb84 := on hb83 z84
    replace rl := rDl.mono rl z84
    replace rt := rT.mono rt z84
    have T_0 : w84.cell? ⟨w82.heap.size, 0, none⟩ = some (.string nm3) := by rw [hw84]; exact box_cell (Below.refl _ _) rfl
    have T_1 : w84.cell? ⟨w82.heap.size, 1, none⟩ = some (.int .i64 A) := by rw [hw84]; exact box_cell (Below.refl _ _) rfl
    have T_2 : w84.cell? ⟨w82.heap.size, 2, none⟩ = some (.slice tb tn tc) := by rw [hw84]; exact box_cell (Below.refl _ _) rfl
    have raw84_T_0 := T_0
    have raw84_T_1 := T_1
    have raw84_T_2 := T_2
    rw [hw84] at raw84_T_0 raw84_T_1 raw84_T_2
    go_wp2_with fail
    rw [← hw84]
    clear hw84
    clear raw84_T_0 raw84_T_1 raw84_T_2
    obtain ⟨wk, rfl⟩ : ∃ W, W = w84 := ⟨_, rfl⟩
    have HL := Lib.hid (fun W (hW : Below wk.heap.size wk W) => rDl.mono rl hW)
    have HT := Lib.hid (fun W (hW : Below wk.heap.size wk W) => rT.mono rt hW)
    clear rl rt
    have hqk : Below wk.heap.size wk wk := Below.refl _ _
    refine (minKeys_impl _ _ es (nm3, A, rows) _ (HL.out _ hqk) (HT.out _ hqk) hbk).mono ?_
    rintro e wm ⟨um, rfl, om, zm⟩
    obtain ⟨mb, mn, mc, rfl⟩ := oS_form1 reads_I om
    have rm := om.rd reads_II
    clear om
    have HMEM := Lib.hid (fun k (hk : k ∈ minKeys es (nm3, A, rows)) => minKeys_mem hk)
    have HPOS := Lib.hid (fun (hv : validT (nm3, A, rows) = true) => minKeys_pos (ds := es) hv)
    obtain ⟨KL, hKL⟩ : ∃ q, minKeys es (nm3, A, rows) = q := ⟨_, rfl⟩
    rw [hKL] at rm HMEM HPOS
    have HKL := Lib.hid hKL
    clear hKL
    have s85 := zm.size
    have hb85 := on hb84 zm
    replace T_0 := bxc zm T_0
    replace T_1 := bxc zm T_1
    replace T_2 := bxc zm T_2
    have hqm := zm
    go_wp2_with fail
    refine (minKeys_spec _ _ es (nm3, A, rows) _ (HL.out _ hqm) (HT.out _ hqm)).mono ?_
    rintro e wn2 ⟨u2, rfl, o2, z2⟩
    obtain ⟨nb, nn, nc, rfl⟩ := oS_form1 reads_I o2
    have rn := o2.rd reads_II
    rw [HKL.out] at rn
    clear o2
    have s86 := z2.size
    have hb86 := on hb85 z2
    replace T_0 := bxc z2 T_0
    replace T_1 := bxc z2 T_1
    replace T_2 := bxc z2 T_2
    replace rm := rII.mono rm z2
    have hqn := on hqm z2
    go_wp2_with fail
    refine (sameRows_eq _ _ _ _ _ _ KL _ rm rn).mono ?_
    rintro e wo2 ⟨rfl, zo0⟩
    have zo : Below wn2.heap.size wn2 wo2 := zo0.below _
    clear zo0 rn HKL
    have s87 := zo.size
    have hb87 := on hb86 zo
    replace T_0 := bxc zo T_0
    replace T_1 := bxc zo T_1
    replace T_2 := bxc zo T_2
    replace rm := rII.mono rm zo
    have hqo := on hqn zo
    have hmn : mn = KL.length := (rS_sl rm).len.symm
    subst hmn
    have hms := (rS_sl rm).small
    have HRM := Lib.hid rm
    clear rm
    go_wp2_with fail
    obtain ⟨wl, rfl⟩ : ∃ W, W = wo2 := ⟨_, rfl⟩
    have hql := hqo
    have hbl := hb87
    go_loopw [13] (fun i wr => ∃ j : Nat, j ≤ KL.length ∧ i = .int .i64 (j : Int) ∧ Below wl.heap.size wl wr) (fun i _ => KL.length - (intOf i).toNat)
    case atStart => exact ⟨0, Nat.zero_le _, rfl, Below.refl _ _⟩
    case round =>
      obtain ⟨j, hj, rfl, hdr0⟩ := hrel
      obtain ⟨wo, rfl⟩ : ∃ W, W = wr := ⟨_, rfl⟩
      have so := hdr0.size
      have t_0 := bxc hdr0 T_0
      have t_1 := bxc hdr0 T_1
      have t_2 := bxc hdr0 T_2
      have hqw := on hql hdr0
      by_cases hlt : j < KL.length
      · have hji : (j : Int) < (KL.length : Int) := by omega
        obtain ⟨b1, o1, ra, rn, rc, xs, rfl, hc, hx, hi, hcap1, hcap2⟩ := (rS_sl HRM.out).row hlt
        have hmem : xs ∈ KL := List.mem_of_getElem? hx.out
        obtain ⟨hk1, hk2⟩ := HMEM.out xs hmem
        have HK1 := Lib.hid hk1
        have HK2 := Lib.hid hk2
        have hlen := hi.len
        have ce := (hdr0.cell (p := ⟨b1, o1 + j, none⟩) (cell_lt hc)).trans hc
        have rxs0 : rI.rep wl [.slice ra rn rc] xs := ⟨ra, rn, rc, rfl, hcap1, hcap2, hi.sl⟩
        have HXS := Lib.hid (fun W (hW : Below wl.heap.size wl W) => rI.mono rxs0 hW)
        clear hc hx hmem hk1 hk2 rxs0 HMEM HPOS
        go_wp2_with fail
        have hdr : Below wo.heap.size wo wo.drew := (Below.refl _ _).drew
        by_cases hz : rn = 0
        · skip
          have hzi : decide (0 < rn) = false := by simp; omega
          subst hz
          clear hi
          refine wp_region_noPanic ?_
          refine wp_region_held_drew (S := (fun W => (W.cell? ⟨w82.heap.size, 0, none⟩ = some (.string nm3) ∧ W.cell? ⟨w82.heap.size, 1, none⟩ = some (.int .i64 A) ∧ W.cell? ⟨w82.heap.size, 2, none⟩ = some (.slice tb tn tc)) ∧ W.cell? ⟨b1, o1 + j, none⟩ = some (.slice ra 0 rc))) (by kernel_rfl) ?hS88 (fun hHeld => ?_)
          case hS88 => exact ⟨⟨t_0, t_1, t_2⟩, ce⟩
          refine wpAnyH_take (i := 0) (v := ?v0_89) rfl (by kernel_rfl) (by kernel_rfl) (by kernel_rfl) (fun _ _ _ h => h) (Or.inl ⟨by rfl, ?hy0_89⟩) (by assumption) ?rest0_89
          case hy0_89 => intro w hSw; (try dsimp only at hSw); go_simp; (try with_reducible rfl)
          try simp only [Act.put, lgA, lgB, lgC, lgD, lgE, lgF]
          refine wpAnyH_take (i := 1) (v := ?v1_90) rfl (by kernel_rfl) (by kernel_rfl) (by kernel_rfl) (fun _ _ _ h => h) (Or.inl ⟨by rfl, ?hy1_90⟩) (by assumption) ?rest1_90
          case hy1_90 => intro w hSw; (try dsimp only at hSw); go_simp; (try with_reducible rfl)
          try simp only [Act.put, lgA, lgB, lgC, lgD, lgE, lgF]
          refine wpAnyH_take (i := 2) (v := ?v2_91) rfl (by kernel_rfl) (by kernel_rfl) (by kernel_rfl) (fun _ _ _ h => h) (Or.inl ⟨by rfl, ?hy2_91⟩) (by assumption) ?rest2_91
          case hy2_91 => intro w hSw; (try dsimp only at hSw); go_simp; (try with_reducible rfl)
          try simp only [Act.put, lgA, lgB, lgC, lgD, lgE, lgF]
          refine wpAnyH_take (i := 3) (v := ?v3_92) rfl (by kernel_rfl) (by kernel_rfl) (by kernel_rfl) (fun _ _ _ h => h) (Or.inl ⟨by rfl, ?hy3_92⟩) (by assumption) ?rest3_92
          case hy3_92 => intro w hSw; (try dsimp only at hSw); go_simp; (try with_reducible rfl)
          try simp only [Act.put, lgA, lgB, lgC, lgD, lgE, lgF]
          refine wpAnyH_take (i := 4) (v := ?v4_93) rfl (by kernel_rfl) (by kernel_rfl) (by kernel_rfl) (fun _ _ _ h => h) (Or.inl ⟨by rfl, ?hy4_93⟩) (by assumption) ?rest4_93
          case hy4_93 => intro w hSw; (try dsimp only at hSw); go_simp; (try with_reducible rfl)
          try simp only [Act.put, lgA, lgB, lgC, lgD, lgE, lgF]
          refine wpAnyH_take (i := 5) (v := ?v5_94) rfl (by kernel_rfl) (by kernel_rfl) (by kernel_rfl) (fun _ _ _ h => h) (Or.inl ⟨by rfl, ?hy5_94⟩) (by assumption) ?rest5_94
          case hy5_94 => intro w hSw; (try dsimp only at hSw); go_simp; (try with_reducible rfl)
          try simp only [Act.put, lgA, lgB, lgC, lgD, lgE, lgF]
          refine wpAnyH_ready (rs := [6]) (by kernel_rfl) (by simp) ?_
          refine AllReadyH.cons rfl (fun K9 hK9 => ?_) AllReadyH.nil
          go_simp
          refine (isKey_impl _ _ _ es (nm3, A, rows) xs _ (HL.out _ (on hqw hdr)) (HT.out _ (on hqw hdr)) (HXS.out _ (on hdr0 hdr)) hbk).mono ?_
          rintro e wA ⟨rfl, yy⟩
          rw [HK1.out]
          have ywA : Below wo.heap.size wo wA := on hdr yy
          have swA := ywA.size
          clear yy
          refine hK9.out _ _ ⟨⟨(ywA.cell (p := ⟨w82.heap.size, 0, none⟩) (by simp only []; omega)).trans t_0, (ywA.cell (p := ⟨w82.heap.size, 1, none⟩) (by simp only []; omega)).trans t_1, (ywA.cell (p := ⟨w82.heap.size, 2, none⟩) (by simp only []; omega)).trans t_2⟩, (ywA.cell (p := ⟨b1, o1 + j, none⟩) (cell_lt ce)).trans ce⟩ (fun hHeld => ?_)
          clear hK9 K9
          try simp only [Act.put, lgA, lgB, lgC, lgD, lgE, lgF]
          refine wpAnyH_take (i := 7) (v := ?v7_95) rfl (by kernel_rfl) (by kernel_rfl) (by kernel_rfl) (fun _ _ _ h => h) (Or.inl ⟨by rfl, ?hy7_95⟩) (by assumption) ?rest7_95
          case hy7_95 => intro w hSw; (try dsimp only at hSw); go_simp; (try with_reducible rfl)
          try simp only [Act.put, lgA, lgB, lgC, lgD, lgE, lgF]
          refine wpAnyH_take (i := 8) (v := ?v8_96) rfl (by kernel_rfl) (by kernel_rfl) (by kernel_rfl) (fun _ _ _ h => h) (Or.inl ⟨by rfl, ?hy8_96⟩) (by assumption) ?rest8_96
          case hy8_96 => intro w hSw; (try dsimp only at hSw); go_simp; (try with_reducible rfl)
          try simp only [Act.put, lgA, lgB, lgC, lgD, lgE, lgF]
          refine wpAnyH_take (i := 9) (v := ?v9_97) rfl (by kernel_rfl) (by kernel_rfl) (by kernel_rfl) (fun _ _ _ h => h) (Or.inl ⟨by rfl, ?hy9_97⟩) (by assumption) ?rest9_97
          case hy9_97 => intro w hSw; (try dsimp only at hSw); go_simp; (try with_reducible rfl)
          try simp only [Act.put, lgA, lgB, lgC, lgD, lgE, lgF]
          refine wpAnyH_take (i := 10) (v := ?v10_98) rfl (by kernel_rfl) (by kernel_rfl) (by kernel_rfl) (fun _ _ _ h => h) (Or.inl ⟨by rfl, ?hy10_98⟩) (by assumption) ?rest10_98
          case hy10_98 => intro w hSw; (try dsimp only at hSw); go_simp; (try with_reducible rfl)
          try simp only [Act.put, lgA, lgB, lgC, lgD, lgE, lgF]
          refine wpAnyH_take (i := 11) (v := ?v11_99) rfl (by kernel_rfl) (by kernel_rfl) (by kernel_rfl) (fun _ _ _ h => h) (Or.inl ⟨by rfl, ?hy11_99⟩) (by assumption) ?rest11_99
          case hy11_99 => intro w hSw; (try dsimp only at hSw); go_simp; (try with_reducible rfl)
          try simp only [Act.put, lgA, lgB, lgC, lgD, lgE, lgF]
          refine wpAnyH_take (i := 12) (v := ?v12_100) rfl (by kernel_rfl) (by kernel_rfl) (by kernel_rfl) (fun _ _ _ h => h) (Or.inl ⟨by rfl, ?hy12_100⟩) (by assumption) ?rest12_100
          case hy12_100 => intro w hSw; (try dsimp only at hSw); go_simp; (try with_reducible rfl)
          try simp only [Act.put, lgA, lgB, lgC, lgD, lgE, lgF]
          refine wpAnyH_take (i := 13) (v := ?v13_101) rfl (by kernel_rfl) (by kernel_rfl) (by kernel_rfl) (fun _ _ _ h => h) (Or.inl ⟨by rfl, ?hy13_101⟩) (by assumption) ?rest13_101
          case hy13_101 => intro w hSw; (try dsimp only at hSw); go_simp; (try with_reducible rfl)
          try simp only [Act.put, lgA, lgB, lgC, lgD, lgE, lgF]
          refine wpAnyH_take (i := 14) (v := ?v14_102) rfl (by kernel_rfl) (by kernel_rfl) (by kernel_rfl) (fun _ _ _ h => h) (Or.inl ⟨by rfl, ?hy14_102⟩) (by assumption) ?rest14_102
          case hy14_102 => intro w hSw; (try dsimp only at hSw); go_simp; (try with_reducible rfl)
          try simp only [Act.put, lgA, lgB, lgC, lgD, lgE, lgF]
          refine wpAnyH_take (i := 15) (v := ?v15_103) rfl (by kernel_rfl) (by kernel_rfl) (by kernel_rfl) (fun _ _ _ h => h) (Or.inl ⟨by rfl, ?hy15_103⟩) (by assumption) ?rest15_103
          case hy15_103 => intro w hSw; (try dsimp only at hSw); go_simp; (try with_reducible rfl)
          try simp only [Act.put, lgA, lgB, lgC, lgD, lgE, lgF]
          refine wpAnyH_take (i := 16) (v := undef) rfl (by kernel_rfl) (by kernel_rfl) (by kernel_rfl) (fun _ _ _ h => h) (Or.inr ⟨by rfl, rfl⟩) (by assumption) ?_
          try simp only [Act.put, lgA, lgB, lgC, lgD, lgE, lgF]
          refine wpAnyH_take (i := 17) (v := undef) rfl (by kernel_rfl) (by kernel_rfl) (by kernel_rfl) (fun _ _ _ h => h) (Or.inr ⟨by rfl, rfl⟩) (by assumption) ?_
          try simp only [Act.put, lgA, lgB, lgC, lgD, lgE, lgF]
          refine wpAnyH_take (i := 18) (v := undef) rfl (by kernel_rfl) (by kernel_rfl) (by kernel_rfl) (fun _ _ _ h => h) (Or.inr ⟨by rfl, rfl⟩) (by assumption) ?_
          try simp only [Act.put, lgA, lgB, lgC, lgD, lgE, lgF]
          refine wpAnyH_take (i := 19) (v := undef) rfl (by kernel_rfl) (by kernel_rfl) (by kernel_rfl) (fun _ _ _ h => h) (Or.inr ⟨by rfl, rfl⟩) (by assumption) ?_
          try simp only [Act.put, lgA, lgB, lgC, lgD, lgE, lgF]
          refine wpAnyH_take (i := 20) (v := undef) rfl (by kernel_rfl) (by kernel_rfl) (by kernel_rfl) (fun _ _ _ h => h) (Or.inr ⟨by rfl, rfl⟩) (by assumption) ?_
          try simp only [Act.put, lgA, lgB, lgC, lgD, lgE, lgF]
          refine wpAnyH_take (i := 21) (v := undef) rfl (by kernel_rfl) (by kernel_rfl) (by kernel_rfl) (fun _ _ _ h => h) (Or.inr ⟨by rfl, rfl⟩) (by assumption) ?_
          try simp only [Act.put, lgA, lgB, lgC, lgD, lgE, lgF]
          refine wpAnyH_take (i := 22) (v := undef) rfl (by kernel_rfl) (by kernel_rfl) (by kernel_rfl) (fun _ _ _ h => h) (Or.inr ⟨by rfl, rfl⟩) (by assumption) ?_
          try simp only [Act.put, lgA, lgB, lgC, lgD, lgE, lgF]
          refine wpAnyH_take (i := 23) (v := undef) rfl (by kernel_rfl) (by kernel_rfl) (by kernel_rfl) (fun _ _ _ h => h) (Or.inr ⟨by rfl, rfl⟩) (by assumption) ?_
          try simp only [Act.put, lgA, lgB, lgC, lgD, lgE, lgF]
          refine wpAnyH_take (i := 24) (v := ?v24_104) rfl (by kernel_rfl) (by kernel_rfl) (by kernel_rfl) (fun _ _ _ h => h) (Or.inl ⟨by rfl, ?hy24_104⟩) (by assumption) ?rest24_104
          case hy24_104 => intro w hSw; (try dsimp only at hSw); go_simp; (try with_reducible rfl)
          try simp only [Act.put, lgA, lgB, lgC, lgD, lgE, lgF]
          refine wpAnyH_take (i := 25) (v := ?v25_105) rfl (by kernel_rfl) (by kernel_rfl) (by kernel_rfl) (fun _ _ _ h => h) (Or.inl ⟨by rfl, ?hy25_105⟩) (by assumption) ?rest25_105
          case hy25_105 => intro w hSw; (try dsimp only at hSw); go_simp; (try with_reducible rfl)
          try simp only [Act.put, lgA, lgB, lgC, lgD, lgE, lgF]
          refine wpAnyH_done (by kernel_rfl) ?_ _
          refine NoPanic.normal ?_
          have hdn := on hdr0 ywA
          clear HL HT HXS HK1 HK2
          go_wp2_with fail
          go_roundw
          case rel => exact ⟨j + 1, by omega, by go_num, hdn⟩
          case measure => simp [intOf]; omega
        · skip
          obtain ⟨b2, o2, y0, rfl, hy9, _⟩ := hi.get (show 0 < rn by omega)
          clear hy9 hi
          by_cases hck : rc = 1
          · skip
            obtain rfl : rc = 1 := hck
            obtain rfl : rn = 1 := by omega
            have hl1 : 1 ≤ xs.length := by omega
            have hl2 : xs.length ≤ 1 := by omega
            clear hlen hz
            have hzi : decide (0 < 1) = true := by decide
            have HTL := Lib.hid (fun W (hW : Below wl.heap.size wl W) => show rI.rep W [.slice (some ⟨b2, o2, none⟩) 0 0] (xs.drop 1) from by rw [List.drop_eq_nil_of_le hl2]; exact rI_none (Nat.zero_le _))
            refine wp_region_noPanic ?_
            refine wp_region_held_drew (S := (fun W => (W.cell? ⟨w82.heap.size, 0, none⟩ = some (.string nm3) ∧ W.cell? ⟨w82.heap.size, 1, none⟩ = some (.int .i64 A) ∧ W.cell? ⟨w82.heap.size, 2, none⟩ = some (.slice tb tn tc)) ∧ W.cell? ⟨b1, o1 + j, none⟩ = some (.slice (some ⟨b2, o2, none⟩) 1 1))) (by kernel_rfl) ?hS106 (fun hHeld => ?_)
            case hS106 => exact ⟨⟨t_0, t_1, t_2⟩, ce⟩
            refine wpAnyH_take (i := 0) (v := ?v0_107) rfl (by kernel_rfl) (by kernel_rfl) (by kernel_rfl) (fun _ _ _ h => h) (Or.inl ⟨by rfl, ?hy0_107⟩) (by assumption) ?rest0_107
            case hy0_107 => intro w hSw; (try dsimp only at hSw); go_simp; (try with_reducible rfl)
            try simp only [Act.put, lgA, lgB, lgC, lgD, lgE, lgF]
            refine wpAnyH_take (i := 1) (v := ?v1_108) rfl (by kernel_rfl) (by kernel_rfl) (by kernel_rfl) (fun _ _ _ h => h) (Or.inl ⟨by rfl, ?hy1_108⟩) (by assumption) ?rest1_108
            case hy1_108 => intro w hSw; (try dsimp only at hSw); go_simp; (try with_reducible rfl)
            try simp only [Act.put, lgA, lgB, lgC, lgD, lgE, lgF]
            refine wpAnyH_take (i := 2) (v := ?v2_109) rfl (by kernel_rfl) (by kernel_rfl) (by kernel_rfl) (fun _ _ _ h => h) (Or.inl ⟨by rfl, ?hy2_109⟩) (by assumption) ?rest2_109
            case hy2_109 => intro w hSw; (try dsimp only at hSw); go_simp; (try with_reducible rfl)
            try simp only [Act.put, lgA, lgB, lgC, lgD, lgE, lgF]
            refine wpAnyH_take (i := 3) (v := ?v3_110) rfl (by kernel_rfl) (by kernel_rfl) (by kernel_rfl) (fun _ _ _ h => h) (Or.inl ⟨by rfl, ?hy3_110⟩) (by assumption) ?rest3_110
            case hy3_110 => intro w hSw; (try dsimp only at hSw); go_simp; (try with_reducible rfl)
            try simp only [Act.put, lgA, lgB, lgC, lgD, lgE, lgF]
            refine wpAnyH_take (i := 4) (v := ?v4_111) rfl (by kernel_rfl) (by kernel_rfl) (by kernel_rfl) (fun _ _ _ h => h) (Or.inl ⟨by rfl, ?hy4_111⟩) (by assumption) ?rest4_111
            case hy4_111 => intro w hSw; (try dsimp only at hSw); go_simp; (try with_reducible rfl)
            try simp only [Act.put, lgA, lgB, lgC, lgD, lgE, lgF]
            refine wpAnyH_take (i := 5) (v := ?v5_112) rfl (by kernel_rfl) (by kernel_rfl) (by kernel_rfl) (fun _ _ _ h => h) (Or.inl ⟨by rfl, ?hy5_112⟩) (by assumption) ?rest5_112
            case hy5_112 => intro w hSw; (try dsimp only at hSw); go_simp; (try with_reducible rfl)
            try simp only [Act.put, lgA, lgB, lgC, lgD, lgE, lgF]
            refine wpAnyH_ready (rs := [6]) (by kernel_rfl) (by simp) ?_
            refine AllReadyH.cons rfl (fun K9 hK9 => ?_) AllReadyH.nil
            go_simp
            refine (isKey_impl _ _ _ es (nm3, A, rows) xs _ (HL.out _ (on hqw hdr)) (HT.out _ (on hqw hdr)) (HXS.out _ (on hdr0 hdr)) hbk).mono ?_
            rintro e wA ⟨rfl, yy⟩
            rw [HK1.out]
            have ywA : Below wo.heap.size wo wA := on hdr yy
            have swA := ywA.size
            clear yy
            refine hK9.out _ _ ⟨⟨(ywA.cell (p := ⟨w82.heap.size, 0, none⟩) (by simp only []; omega)).trans t_0, (ywA.cell (p := ⟨w82.heap.size, 1, none⟩) (by simp only []; omega)).trans t_1, (ywA.cell (p := ⟨w82.heap.size, 2, none⟩) (by simp only []; omega)).trans t_2⟩, (ywA.cell (p := ⟨b1, o1 + j, none⟩) (cell_lt ce)).trans ce⟩ (fun hHeld => ?_)
            clear hK9 K9
            try simp only [Act.put, lgA, lgB, lgC, lgD, lgE, lgF]
            refine wpAnyH_take (i := 7) (v := ?v7_113) rfl (by kernel_rfl) (by kernel_rfl) (by kernel_rfl) (fun _ _ _ h => h) (Or.inl ⟨by rfl, ?hy7_113⟩) (by assumption) ?rest7_113
            case hy7_113 => intro w hSw; (try dsimp only at hSw); go_simp; (try with_reducible rfl)
            try simp only [Act.put, lgA, lgB, lgC, lgD, lgE, lgF]
            refine wpAnyH_take (i := 8) (v := ?v8_114) rfl (by kernel_rfl) (by kernel_rfl) (by kernel_rfl) (fun _ _ _ h => h) (Or.inl ⟨by rfl, ?hy8_114⟩) (by assumption) ?rest8_114
            case hy8_114 => intro w hSw; (try dsimp only at hSw); go_simp; (try with_reducible rfl)
            try simp only [Act.put, lgA, lgB, lgC, lgD, lgE, lgF]
            refine wpAnyH_take (i := 9) (v := ?v9_115) rfl (by kernel_rfl) (by kernel_rfl) (by kernel_rfl) (fun _ _ _ h => h) (Or.inl ⟨by rfl, ?hy9_115⟩) (by assumption) ?rest9_115
            case hy9_115 => intro w hSw; (try dsimp only at hSw); go_simp; (try with_reducible rfl)
            try simp only [Act.put, lgA, lgB, lgC, lgD, lgE, lgF]
            refine wpAnyH_take (i := 10) (v := ?v10_116) rfl (by kernel_rfl) (by kernel_rfl) (by kernel_rfl) (fun _ _ _ h => h) (Or.inl ⟨by rfl, ?hy10_116⟩) (by assumption) ?rest10_116
            case hy10_116 => intro w hSw; (try dsimp only at hSw); go_simp; (try with_reducible rfl)
            try simp only [Act.put, lgA, lgB, lgC, lgD, lgE, lgF]
            refine wpAnyH_take (i := 11) (v := ?v11_117) rfl (by kernel_rfl) (by kernel_rfl) (by kernel_rfl) (fun _ _ _ h => h) (Or.inl ⟨by rfl, ?hy11_117⟩) (by assumption) ?rest11_117
            case hy11_117 => intro w hSw; (try dsimp only at hSw); go_simp; (try with_reducible rfl)
            try simp only [Act.put, lgA, lgB, lgC, lgD, lgE, lgF]
            refine wpAnyH_take (i := 12) (v := ?v12_118) rfl (by kernel_rfl) (by kernel_rfl) (by kernel_rfl) (fun _ _ _ h => h) (Or.inl ⟨by rfl, ?hy12_118⟩) (by assumption) ?rest12_118
            case hy12_118 => intro w hSw; (try dsimp only at hSw); go_simp; (try with_reducible rfl)
            try simp only [Act.put, lgA, lgB, lgC, lgD, lgE, lgF]
            refine wpAnyH_take (i := 13) (v := ?v13_119) rfl (by kernel_rfl) (by kernel_rfl) (by kernel_rfl) (fun _ _ _ h => h) (Or.inl ⟨by rfl, ?hy13_119⟩) (by assumption) ?rest13_119
            case hy13_119 => intro w hSw; (try dsimp only at hSw); go_simp; (try with_reducible rfl)
            try simp only [Act.put, lgA, lgB, lgC, lgD, lgE, lgF]
            refine wpAnyH_take (i := 14) (v := ?v14_120) rfl (by kernel_rfl) (by kernel_rfl) (by kernel_rfl) (fun _ _ _ h => h) (Or.inl ⟨by rfl, ?hy14_120⟩) (by assumption) ?rest14_120
            case hy14_120 => intro w hSw; (try dsimp only at hSw); go_simp; (try with_reducible rfl)
            try simp only [Act.put, lgA, lgB, lgC, lgD, lgE, lgF]
            refine wpAnyH_take (i := 15) (v := ?v15_121) rfl (by kernel_rfl) (by kernel_rfl) (by kernel_rfl) (fun _ _ _ h => h) (Or.inl ⟨by rfl, ?hy15_121⟩) (by assumption) ?rest15_121
            case hy15_121 => intro w hSw; (try dsimp only at hSw); go_simp; (try with_reducible rfl)
            try simp only [Act.put, lgA, lgB, lgC, lgD, lgE, lgF]
            refine wpAnyH_take (i := 16) (v := ?v16_122) rfl (by kernel_rfl) (by kernel_rfl) (by kernel_rfl) (fun _ _ _ h => h) (Or.inl ⟨by rfl, ?hy16_122⟩) (by assumption) ?rest16_122
            case hy16_122 => intro w hSw; (try dsimp only at hSw); go_simp; (try with_reducible rfl)
            try simp only [Act.put, lgA, lgB, lgC, lgD, lgE, lgF]
            refine wpAnyH_take (i := 17) (v := ?v17_123) rfl (by kernel_rfl) (by kernel_rfl) (by kernel_rfl) (fun _ _ _ h => h) (Or.inl ⟨by rfl, ?hy17_123⟩) (by assumption) ?rest17_123
            case hy17_123 => intro w hSw; (try dsimp only at hSw); go_simp; (try with_reducible rfl)
            try simp only [Act.put, lgA, lgB, lgC, lgD, lgE, lgF]
            refine wpAnyH_take (i := 18) (v := ?v18_124) rfl (by kernel_rfl) (by kernel_rfl) (by kernel_rfl) (fun _ _ _ h => h) (Or.inl ⟨by rfl, ?hy18_124⟩) (by assumption) ?rest18_124
            case hy18_124 => intro w hSw; (try dsimp only at hSw); go_simp; (try with_reducible rfl)
            try simp only [Act.put, lgA, lgB, lgC, lgD, lgE, lgF]
            refine wpAnyH_take (i := 19) (v := ?v19_125) rfl (by kernel_rfl) (by kernel_rfl) (by kernel_rfl) (fun _ _ _ h => h) (Or.inl ⟨by rfl, ?hy19_125⟩) (by assumption) ?rest19_125
            case hy19_125 => intro w hSw; (try dsimp only at hSw); go_simp; (try with_reducible rfl)
            try simp only [Act.put, lgA, lgB, lgC, lgD, lgE, lgF]
            refine wpAnyH_take (i := 20) (v := ?v20_126) rfl (by kernel_rfl) (by kernel_rfl) (by kernel_rfl) (fun _ _ _ h => h) (Or.inl ⟨by rfl, ?hy20_126⟩) (by assumption) ?rest20_126
            case hy20_126 => intro w hSw; (try dsimp only at hSw); go_simp; (try with_reducible rfl)
            try simp only [Act.put, lgA, lgB, lgC, lgD, lgE, lgF]
            refine wpAnyH_take (i := 21) (v := ?v21_127) rfl (by kernel_rfl) (by kernel_rfl) (by kernel_rfl) (fun _ _ _ h => h) (Or.inl ⟨by rfl, ?hy21_127⟩) (by assumption) ?rest21_127
            case hy21_127 => intro w hSw; (try dsimp only at hSw); go_simp; (try with_reducible rfl)
            try simp only [Act.put, lgA, lgB, lgC, lgD, lgE, lgF]
            refine wpAnyH_take (i := 22) (v := ?v22_128) rfl (by kernel_rfl) (by kernel_rfl) (by kernel_rfl) (fun _ _ _ h => h) (Or.inl ⟨by rfl, ?hy22_128⟩) (by assumption) ?rest22_128
            case hy22_128 => intro w hSw; (try dsimp only at hSw); go_simp; (try with_reducible rfl)
            try simp only [Act.put, lgA, lgB, lgC, lgD, lgE, lgF]
            refine wpAnyH_ready (rs := [23]) (by kernel_rfl) (by simp) ?_
            refine AllReadyH.cons rfl (fun K9 hK9 => ?_) AllReadyH.nil
            go_simp
            refine (isKey_impl _ _ _ es (nm3, A, rows) (xs.drop 1) _ (HL.out _ (on hqw ywA)) (HT.out _ (on hqw ywA)) (HTL.out _ (on hdr0 ywA)) hbk).mono ?_
            rintro e wB ⟨rfl, yy⟩
            rw [HK2.out (by omega)]
            have ywB : Below wo.heap.size wo wB := on ywA yy
            have swB := ywB.size
            clear yy
            refine hK9.out _ _ ⟨⟨(ywB.cell (p := ⟨w82.heap.size, 0, none⟩) (by simp only []; omega)).trans t_0, (ywB.cell (p := ⟨w82.heap.size, 1, none⟩) (by simp only []; omega)).trans t_1, (ywB.cell (p := ⟨w82.heap.size, 2, none⟩) (by simp only []; omega)).trans t_2⟩, (ywB.cell (p := ⟨b1, o1 + j, none⟩) (cell_lt ce)).trans ce⟩ (fun hHeld => ?_)
            clear hK9 K9
            try simp only [Act.put, lgA, lgB, lgC, lgD, lgE, lgF]
            refine wpAnyH_take (i := 24) (v := ?v24_129) rfl (by kernel_rfl) (by kernel_rfl) (by kernel_rfl) (fun _ _ _ h => h) (Or.inl ⟨by rfl, ?hy24_129⟩) (by assumption) ?rest24_129
            case hy24_129 => intro w hSw; (try dsimp only at hSw); go_simp; (try with_reducible rfl)
            try simp only [Act.put, lgA, lgB, lgC, lgD, lgE, lgF]
            refine wpAnyH_take (i := 25) (v := ?v25_130) rfl (by kernel_rfl) (by kernel_rfl) (by kernel_rfl) (fun _ _ _ h => h) (Or.inl ⟨by rfl, ?hy25_130⟩) (by assumption) ?rest25_130
            case hy25_130 => intro w hSw; (try dsimp only at hSw); go_simp; (try with_reducible rfl)
            try simp only [Act.put, lgA, lgB, lgC, lgD, lgE, lgF]
            refine wpAnyH_done (by kernel_rfl) ?_ _
            refine NoPanic.normal ?_
            have hdn := on hdr0 ywB
            clear HL HT HXS HK1 HK2
            go_wp2_with fail
            go_roundw
            case rel => exact ⟨j + 1, by omega, by go_num, hdn⟩
            case measure => simp [intOf]; omega
          · skip
            have hzi : decide (0 < rn) = true := by simp; omega
            have hzi2 : (0 : Int) < (rn : Int) := by omega
            have hzi3 : (1 : Int) ≤ (rn : Int) := by omega
            have hl1 : 1 ≤ xs.length := by omega
            have HTL := Lib.hid (fun W (hW : Below wl.heap.size wl W) => rI_tail (HXS.out W hW) (show 0 < rn by omega))
            refine wp_region_noPanic ?_
            refine wp_region_held_drew (S := (fun W => (W.cell? ⟨w82.heap.size, 0, none⟩ = some (.string nm3) ∧ W.cell? ⟨w82.heap.size, 1, none⟩ = some (.int .i64 A) ∧ W.cell? ⟨w82.heap.size, 2, none⟩ = some (.slice tb tn tc)) ∧ W.cell? ⟨b1, o1 + j, none⟩ = some (.slice (some ⟨b2, o2, none⟩) rn rc))) (by kernel_rfl) ?hS131 (fun hHeld => ?_)
            case hS131 => exact ⟨⟨t_0, t_1, t_2⟩, ce⟩
            refine wpAnyH_take (i := 0) (v := ?v0_132) rfl (by kernel_rfl) (by kernel_rfl) (by kernel_rfl) (fun _ _ _ h => h) (Or.inl ⟨by rfl, ?hy0_132⟩) (by assumption) ?rest0_132
            case hy0_132 => intro w hSw; (try dsimp only at hSw); go_simp; (try with_reducible rfl)
            try simp only [Act.put, lgA, lgB, lgC, lgD, lgE, lgF]
            refine wpAnyH_take (i := 1) (v := ?v1_133) rfl (by kernel_rfl) (by kernel_rfl) (by kernel_rfl) (fun _ _ _ h => h) (Or.inl ⟨by rfl, ?hy1_133⟩) (by assumption) ?rest1_133
            case hy1_133 => intro w hSw; (try dsimp only at hSw); go_simp; (try with_reducible rfl)
            try simp only [Act.put, lgA, lgB, lgC, lgD, lgE, lgF]
            refine wpAnyH_take (i := 2) (v := ?v2_134) rfl (by kernel_rfl) (by kernel_rfl) (by kernel_rfl) (fun _ _ _ h => h) (Or.inl ⟨by rfl, ?hy2_134⟩) (by assumption) ?rest2_134
            case hy2_134 => intro w hSw; (try dsimp only at hSw); go_simp; (try with_reducible rfl)
            try simp only [Act.put, lgA, lgB, lgC, lgD, lgE, lgF]
            refine wpAnyH_take (i := 3) (v := ?v3_135) rfl (by kernel_rfl) (by kernel_rfl) (by kernel_rfl) (fun _ _ _ h => h) (Or.inl ⟨by rfl, ?hy3_135⟩) (by assumption) ?rest3_135
            case hy3_135 => intro w hSw; (try dsimp only at hSw); go_simp; (try with_reducible rfl)
            try simp only [Act.put, lgA, lgB, lgC, lgD, lgE, lgF]
            refine wpAnyH_take (i := 4) (v := ?v4_136) rfl (by kernel_rfl) (by kernel_rfl) (by kernel_rfl) (fun _ _ _ h => h) (Or.inl ⟨by rfl, ?hy4_136⟩) (by assumption) ?rest4_136
            case hy4_136 => intro w hSw; (try dsimp only at hSw); go_simp; (try with_reducible rfl)
            try simp only [Act.put, lgA, lgB, lgC, lgD, lgE, lgF]
            refine wpAnyH_take (i := 5) (v := ?v5_137) rfl (by kernel_rfl) (by kernel_rfl) (by kernel_rfl) (fun _ _ _ h => h) (Or.inl ⟨by rfl, ?hy5_137⟩) (by assumption) ?rest5_137
            case hy5_137 => intro w hSw; (try dsimp only at hSw); go_simp; (try with_reducible rfl)
            try simp only [Act.put, lgA, lgB, lgC, lgD, lgE, lgF]
            refine wpAnyH_ready (rs := [6]) (by kernel_rfl) (by simp) ?_
            refine AllReadyH.cons rfl (fun K9 hK9 => ?_) AllReadyH.nil
            go_simp
            refine (isKey_impl _ _ _ es (nm3, A, rows) xs _ (HL.out _ (on hqw hdr)) (HT.out _ (on hqw hdr)) (HXS.out _ (on hdr0 hdr)) hbk).mono ?_
            rintro e wA ⟨rfl, yy⟩
            rw [HK1.out]
            have ywA : Below wo.heap.size wo wA := on hdr yy
            have swA := ywA.size
            clear yy
            refine hK9.out _ _ ⟨⟨(ywA.cell (p := ⟨w82.heap.size, 0, none⟩) (by simp only []; omega)).trans t_0, (ywA.cell (p := ⟨w82.heap.size, 1, none⟩) (by simp only []; omega)).trans t_1, (ywA.cell (p := ⟨w82.heap.size, 2, none⟩) (by simp only []; omega)).trans t_2⟩, (ywA.cell (p := ⟨b1, o1 + j, none⟩) (cell_lt ce)).trans ce⟩ (fun hHeld => ?_)
            clear hK9 K9
            try simp only [Act.put, lgA, lgB, lgC, lgD, lgE, lgF]
            refine wpAnyH_take (i := 7) (v := ?v7_138) rfl (by kernel_rfl) (by kernel_rfl) (by kernel_rfl) (fun _ _ _ h => h) (Or.inl ⟨by rfl, ?hy7_138⟩) (by assumption) ?rest7_138
            case hy7_138 => intro w hSw; (try dsimp only at hSw); go_simp; (try with_reducible rfl)
            try simp only [Act.put, lgA, lgB, lgC, lgD, lgE, lgF]
            refine wpAnyH_take (i := 8) (v := ?v8_139) rfl (by kernel_rfl) (by kernel_rfl) (by kernel_rfl) (fun _ _ _ h => h) (Or.inl ⟨by rfl, ?hy8_139⟩) (by assumption) ?rest8_139
            case hy8_139 => intro w hSw; (try dsimp only at hSw); go_simp; (try with_reducible rfl)
            try simp only [Act.put, lgA, lgB, lgC, lgD, lgE, lgF]
            refine wpAnyH_take (i := 9) (v := ?v9_140) rfl (by kernel_rfl) (by kernel_rfl) (by kernel_rfl) (fun _ _ _ h => h) (Or.inl ⟨by rfl, ?hy9_140⟩) (by assumption) ?rest9_140
            case hy9_140 => intro w hSw; (try dsimp only at hSw); go_simp; (try with_reducible rfl)
            try simp only [Act.put, lgA, lgB, lgC, lgD, lgE, lgF]
            refine wpAnyH_take (i := 10) (v := ?v10_141) rfl (by kernel_rfl) (by kernel_rfl) (by kernel_rfl) (fun _ _ _ h => h) (Or.inl ⟨by rfl, ?hy10_141⟩) (by assumption) ?rest10_141
            case hy10_141 => intro w hSw; (try dsimp only at hSw); go_simp; (try with_reducible rfl)
            try simp only [Act.put, lgA, lgB, lgC, lgD, lgE, lgF]
            refine wpAnyH_take (i := 11) (v := ?v11_142) rfl (by kernel_rfl) (by kernel_rfl) (by kernel_rfl) (fun _ _ _ h => h) (Or.inl ⟨by rfl, ?hy11_142⟩) (by assumption) ?rest11_142
            case hy11_142 => intro w hSw; (try dsimp only at hSw); go_simp; (try with_reducible rfl)
            try simp only [Act.put, lgA, lgB, lgC, lgD, lgE, lgF]
            refine wpAnyH_take (i := 12) (v := ?v12_143) rfl (by kernel_rfl) (by kernel_rfl) (by kernel_rfl) (fun _ _ _ h => h) (Or.inl ⟨by rfl, ?hy12_143⟩) (by assumption) ?rest12_143
            case hy12_143 => intro w hSw; (try dsimp only at hSw); go_simp; (try with_reducible rfl)
            try simp only [Act.put, lgA, lgB, lgC, lgD, lgE, lgF]
            refine wpAnyH_take (i := 13) (v := ?v13_144) rfl (by kernel_rfl) (by kernel_rfl) (by kernel_rfl) (fun _ _ _ h => h) (Or.inl ⟨by rfl, ?hy13_144⟩) (by assumption) ?rest13_144
            case hy13_144 => intro w hSw; (try dsimp only at hSw); go_simp; (try with_reducible rfl)
            try simp only [Act.put, lgA, lgB, lgC, lgD, lgE, lgF]
            refine wpAnyH_take (i := 14) (v := ?v14_145) rfl (by kernel_rfl) (by kernel_rfl) (by kernel_rfl) (fun _ _ _ h => h) (Or.inl ⟨by rfl, ?hy14_145⟩) (by assumption) ?rest14_145
            case hy14_145 => intro w hSw; (try dsimp only at hSw); go_simp; (try with_reducible rfl)
            try simp only [Act.put, lgA, lgB, lgC, lgD, lgE, lgF]
            refine wpAnyH_take (i := 15) (v := ?v15_146) rfl (by kernel_rfl) (by kernel_rfl) (by kernel_rfl) (fun _ _ _ h => h) (Or.inl ⟨by rfl, ?hy15_146⟩) (by assumption) ?rest15_146
            case hy15_146 => intro w hSw; (try dsimp only at hSw); go_simp; (try with_reducible rfl)
            try simp only [Act.put, lgA, lgB, lgC, lgD, lgE, lgF]
            refine wpAnyH_take (i := 16) (v := ?v16_147) rfl (by kernel_rfl) (by kernel_rfl) (by kernel_rfl) (fun _ _ _ h => h) (Or.inl ⟨by rfl, ?hy16_147⟩) (by assumption) ?rest16_147
            case hy16_147 => intro w hSw; (try dsimp only at hSw); go_simp; (try with_reducible rfl)
            try simp only [Act.put, lgA, lgB, lgC, lgD, lgE, lgF]
            refine wpAnyH_take (i := 17) (v := ?v17_148) rfl (by kernel_rfl) (by kernel_rfl) (by kernel_rfl) (fun _ _ _ h => h) (Or.inl ⟨by rfl, ?hy17_148⟩) (by assumption) ?rest17_148
            case hy17_148 => intro w hSw; (try dsimp only at hSw); go_simp; (try with_reducible rfl)
            try simp only [Act.put, lgA, lgB, lgC, lgD, lgE, lgF]
            refine wpAnyH_take (i := 18) (v := ?v18_149) rfl (by kernel_rfl) (by kernel_rfl) (by kernel_rfl) (fun _ _ _ h => h) (Or.inl ⟨by rfl, ?hy18_149⟩) (by assumption) ?rest18_149
            case hy18_149 => intro w hSw; (try dsimp only at hSw); go_simp; (try with_reducible rfl)
            try simp only [Act.put, lgA, lgB, lgC, lgD, lgE, lgF]
            refine wpAnyH_take (i := 19) (v := ?v19_150) rfl (by kernel_rfl) (by kernel_rfl) (by kernel_rfl) (fun _ _ _ h => h) (Or.inl ⟨by rfl, ?hy19_150⟩) (by assumption) ?rest19_150
            case hy19_150 => intro w hSw; (try dsimp only at hSw); go_simp; (try with_reducible rfl)
            try simp only [Act.put, lgA, lgB, lgC, lgD, lgE, lgF]
            refine wpAnyH_take (i := 20) (v := ?v20_151) rfl (by kernel_rfl) (by kernel_rfl) (by kernel_rfl) (fun _ _ _ h => h) (Or.inl ⟨by rfl, ?hy20_151⟩) (by assumption) ?rest20_151
            case hy20_151 => intro w hSw; (try dsimp only at hSw); go_simp; (try with_reducible rfl)
            try simp only [Act.put, lgA, lgB, lgC, lgD, lgE, lgF]
            refine wpAnyH_take (i := 21) (v := ?v21_152) rfl (by kernel_rfl) (by kernel_rfl) (by kernel_rfl) (fun _ _ _ h => h) (Or.inl ⟨by rfl, ?hy21_152⟩) (by assumption) ?rest21_152
            case hy21_152 => intro w hSw; (try dsimp only at hSw); go_simp; (try with_reducible rfl)
            try simp only [Act.put, lgA, lgB, lgC, lgD, lgE, lgF]
            refine wpAnyH_take (i := 22) (v := ?v22_153) rfl (by kernel_rfl) (by kernel_rfl) (by kernel_rfl) (fun _ _ _ h => h) (Or.inl ⟨by rfl, ?hy22_153⟩) (by assumption) ?rest22_153
            case hy22_153 => intro w hSw; (try dsimp only at hSw); go_simp; (try with_reducible rfl)
            try simp only [Act.put, lgA, lgB, lgC, lgD, lgE, lgF]
            refine wpAnyH_ready (rs := [23]) (by kernel_rfl) (by simp) ?_
            refine AllReadyH.cons rfl (fun K9 hK9 => ?_) AllReadyH.nil
            go_simp
            refine (isKey_impl _ _ _ es (nm3, A, rows) (xs.drop 1) _ (HL.out _ (on hqw ywA)) (HT.out _ (on hqw ywA)) (HTL.out _ (on hdr0 ywA)) hbk).mono ?_
            rintro e wB ⟨rfl, yy⟩
            rw [HK2.out (by omega)]
            have ywB : Below wo.heap.size wo wB := on ywA yy
            have swB := ywB.size
            clear yy
            refine hK9.out _ _ ⟨⟨(ywB.cell (p := ⟨w82.heap.size, 0, none⟩) (by simp only []; omega)).trans t_0, (ywB.cell (p := ⟨w82.heap.size, 1, none⟩) (by simp only []; omega)).trans t_1, (ywB.cell (p := ⟨w82.heap.size, 2, none⟩) (by simp only []; omega)).trans t_2⟩, (ywB.cell (p := ⟨b1, o1 + j, none⟩) (cell_lt ce)).trans ce⟩ (fun hHeld => ?_)
            clear hK9 K9
            try simp only [Act.put, lgA, lgB, lgC, lgD, lgE, lgF]
            refine wpAnyH_take (i := 24) (v := ?v24_154) rfl (by kernel_rfl) (by kernel_rfl) (by kernel_rfl) (fun _ _ _ h => h) (Or.inl ⟨by rfl, ?hy24_154⟩) (by assumption) ?rest24_154
            case hy24_154 => intro w hSw; (try dsimp only at hSw); go_simp; (try with_reducible rfl)
            try simp only [Act.put, lgA, lgB, lgC, lgD, lgE, lgF]
            refine wpAnyH_take (i := 25) (v := ?v25_155) rfl (by kernel_rfl) (by kernel_rfl) (by kernel_rfl) (fun _ _ _ h => h) (Or.inl ⟨by rfl, ?hy25_155⟩) (by assumption) ?rest25_155
            case hy25_155 => intro w hSw; (try dsimp only at hSw); go_simp; (try with_reducible rfl)
            try simp only [Act.put, lgA, lgB, lgC, lgD, lgE, lgF]
            refine wpAnyH_done (by kernel_rfl) ?_ _
            refine NoPanic.normal ?_
            have hdn := on hdr0 ywB
            clear HL HT HXS HK1 HK2
            go_wp2_with fail
            go_roundw
            case rel => exact ⟨j + 1, by omega, by go_num, hdn⟩
            case measure => simp [intOf]; omega
      · have hji : ¬ ((j : Int) < (KL.length : Int)) := by omega
        have hbo : Below w.heap.size w wo := on hbl hdr0
        clear HRM HMEM hdr0
        replace T_0 := t_0
        replace T_1 := t_1
        replace T_2 := t_2
        clear t_0 t_1 t_2
        go_wp2_with fail
        refine (drawParse_any _ ba bn bc hbn (bytes_at' HBY.out hbo)).mono ?_
        rintro e w156 ⟨s, rfl, hs, z156⟩
        have s157 := z156.size
        have hb157 := on hbo z156
        replace T_0 := bxc z156 T_0
        replace T_1 := bxc z156 T_1
        replace T_2 := bxc z156 T_2
        have hq20 := on hqw z156
        go_wp2_with fail
        refine (parDp_impl s _ hs (HM.out _ hb157)).mono ?_
        rintro e wy ⟨cy, rfl, oy, zy⟩
        have s158 := zy.size
        have hb158 := on hb157 zy
        replace T_0 := bxc zy T_0
        replace T_1 := bxc zy T_1
        replace T_2 := bxc zy T_2
        have hq21 := on hq20 zy
        obtain ⟨yb, yn, yc, rfl⟩ := oDp_form oy
        obtain ⟨Y, hY⟩ : ∃ q, (parDp s).getD zeroDp = q := ⟨_, rfl⟩
        rw [hY] at oy
        simp only [hY]
        have hcyl : Y.2.1.length ≤ 1048576 := by
          have h9 := parDp_bulk s
          rw [hY] at h9
          have h8 := h9.2
          unfold bulk_Dp bulk_I at h8
          omega
        obtain ⟨w159, hw159⟩ : ∃ W, W = wy.alloc (.cells #[.string Y.1, .slice yb yn yc, .int .i64 Y.2.2] 29) := ⟨_, rfl⟩
        have z159 : Below wy.heap.size wy w159 := by rw [hw159]; exact (Below.refl _ _).alloc (Nat.le_refl _) _
        have s159 : w159.heap.size = wy.heap.size + 1 := by rw [hw159]; simp
        have hb159 := on hb158 z159
        have old159_T_0 := T_0
        have old159_T_1 := T_1
        have old159_T_2 := T_2
        replace T_0 := bxc z159 T_0
        replace T_1 := bxc z159 T_1
        replace T_2 := bxc z159 T_2
        replace oy := oy.below z159 (by omega)
        have Y_0 : w159.cell? ⟨wy.heap.size, 0, none⟩ = some (.string Y.1) := by rw [hw159]; exact box_cell (Below.refl _ _) rfl
        have Y_1 : w159.cell? ⟨wy.heap.size, 1, none⟩ = some (.slice yb yn yc) := by rw [hw159]; exact box_cell (Below.refl _ _) rfl
        have Y_2 : w159.cell? ⟨wy.heap.size, 2, none⟩ = some (.int .i64 Y.2.2) := by rw [hw159]; exact box_cell (Below.refl _ _) rfl
        have raw159_T_0 := T_0
        have raw159_T_1 := T_1
        have raw159_T_2 := T_2
        have raw159_Y_0 := Y_0
        have raw159_Y_1 := Y_1
        have raw159_Y_2 := Y_2
        rw [hw159] at raw159_T_0 raw159_T_1 raw159_T_2 raw159_Y_0 raw159_Y_1 raw159_Y_2
        go_wp2_with fail
        rw [← hw159]
        clear hw159
        clear old159_T_0 old159_T_1 old159_T_2 raw159_T_0 raw159_T_1 raw159_T_2 raw159_Y_0 raw159_Y_1 raw159_Y_2
        refine (parDp_spec s _ hs).mono ?_
        rintro e wz ⟨cz, rfl, oz, zz⟩
        have hq22 := on (on hq21 z159) zz
        have s160 := zz.size
        have hb160 := on hb159 zz
        replace T_0 := bxc zz T_0
        replace T_1 := bxc zz T_1
        replace T_2 := bxc zz T_2
        replace oy := oy.below zz (by omega)
        replace Y_0 := bxc zz Y_0
        replace Y_1 := bxc zz Y_1
        replace Y_2 := bxc zz Y_2
        obtain ⟨zb, zn, zc9, rfl⟩ := oDp_form oz
        simp only [hY]
        rw [hY] at oz
        have HS := Lib.hid (fun x (hx : parDp s = some x) => text_same hx)
        obtain ⟨V9, hV9⟩ : ∃ q, validT (nm3, A, rows) = q := ⟨_, rfl⟩
        have HP9 := Lib.hid (fun (h : V9 = true) => HPOS.out (hV9.trans h))
        have HV9 := Lib.hid hV9
        clear hV9 HPOS
        obtain ⟨P9, hP9⟩ : ∃ q, parDp s = q := ⟨_, rfl⟩
        simp only [hP9]
        cases P9 with
        | none =>
          simp only [Option.isSome_none]
          clear hP9 hY HS
          obtain ⟨w161, hw161⟩ : ∃ W, W = wz.alloc (.cells #[.string Y.1, .slice zb zn zc9, .int .i64 Y.2.2] 29) := ⟨_, rfl⟩
          have z161 : Below wz.heap.size wz w161 := by rw [hw161]; exact (Below.refl _ _).alloc (Nat.le_refl _) _
          have s161 : w161.heap.size = wz.heap.size + 1 := by rw [hw161]; simp
          have hb161 := on hb160 z161
          have old161_T_0 := T_0
          have old161_T_1 := T_1
          have old161_T_2 := T_2
          have old161_Y_0 := Y_0
          have old161_Y_1 := Y_1
          have old161_Y_2 := Y_2
          replace T_0 := bxc z161 T_0
          replace T_1 := bxc z161 T_1
          replace T_2 := bxc z161 T_2
          replace oy := oy.below z161 (by omega)
          replace Y_0 := bxc z161 Y_0
          replace Y_1 := bxc z161 Y_1
          replace Y_2 := bxc z161 Y_2
          have V_0 : w161.cell? ⟨wz.heap.size, 0, none⟩ = some (.string Y.1) := by rw [hw161]; exact box_cell (Below.refl _ _) rfl
          have V_1 : w161.cell? ⟨wz.heap.size, 1, none⟩ = some (.slice zb zn zc9) := by rw [hw161]; exact box_cell (Below.refl _ _) rfl
          have V_2 : w161.cell? ⟨wz.heap.size, 2, none⟩ = some (.int .i64 Y.2.2) := by rw [hw161]; exact box_cell (Below.refl _ _) rfl
          have raw161_T_0 := T_0
          have raw161_T_1 := T_1
          have raw161_T_2 := T_2
          have raw161_Y_0 := Y_0
          have raw161_Y_1 := Y_1
          have raw161_Y_2 := Y_2
          have raw161_V_0 := V_0
          have raw161_V_1 := V_1
          have raw161_V_2 := V_2
          rw [hw161] at raw161_T_0 raw161_T_1 raw161_T_2 raw161_Y_0 raw161_Y_1 raw161_Y_2 raw161_V_0 raw161_V_1 raw161_V_2
          go_wp2_with fail
          rw [← hw161]
          clear hw161
          clear old161_T_0 old161_T_1 old161_T_2 old161_Y_0 old161_Y_1 old161_Y_2 raw161_T_0 raw161_T_1 raw161_T_2 raw161_Y_0 raw161_Y_1 raw161_Y_2 raw161_V_0 raw161_V_1 raw161_V_2
          have hq23 := on hq22 z161
          refine (validT_spec _ (nm3, A, rows) _ (HT.out _ hq23)).mono ?_
          rintro e wt ⟨rfl, zt⟩
          rw [HV9.out]
          have s162 := zt.size
          have hb162 := on hb161 zt
          replace T_0 := bxc zt T_0
          replace T_1 := bxc zt T_1
          replace T_2 := bxc zt T_2
          replace oy := oy.below zt (by omega)
          replace Y_0 := bxc zt Y_0
          replace Y_1 := bxc zt Y_1
          replace Y_2 := bxc zt Y_2
          replace V_0 := bxc zt V_0
          replace V_1 := bxc zt V_1
          replace V_2 := bxc zt V_2
          cases V9 with
          | false =>
            go_wp2_with fail
            go_ret
            exact ⟨rfl, hb162⟩
          | true =>
            have hp9 := HP9.out rfl
            have hp8 : decide (0 < KL.length) = true := by simpa using hp9
            have hp7 : (0 : Int) < (KL.length : Int) := by omega
            go_wp2_with fail
            go_ret
            exact ⟨rfl, hb162⟩
        | some x9 =>
          simp only [Option.isSome_some]
          have hE9 := HS.out x9 hP9
          rw [hP9] at hY
          obtain rfl : x9 = Y := hY
          have HE9 := Lib.hid hE9
          clear hP9 HS hE9
          obtain ⟨w163, hw163⟩ : ∃ W, W = wz.alloc (.cells #[.string x9.1, .slice zb zn zc9, .int .i64 x9.2.2] 29) := ⟨_, rfl⟩
          have z163 : Below wz.heap.size wz w163 := by rw [hw163]; exact (Below.refl _ _).alloc (Nat.le_refl _) _
          have s163 : w163.heap.size = wz.heap.size + 1 := by rw [hw163]; simp
          have hb163 := on hb160 z163
          have old163_T_0 := T_0
          have old163_T_1 := T_1
          have old163_T_2 := T_2
          have old163_Y_0 := Y_0
          have old163_Y_1 := Y_1
          have old163_Y_2 := Y_2
          replace T_0 := bxc z163 T_0
          replace T_1 := bxc z163 T_1
          replace T_2 := bxc z163 T_2
          replace oy := oy.below z163 (by omega)
          replace Y_0 := bxc z163 Y_0
          replace Y_1 := bxc z163 Y_1
          replace Y_2 := bxc z163 Y_2
          have V_0 : w163.cell? ⟨wz.heap.size, 0, none⟩ = some (.string x9.1) := by rw [hw163]; exact box_cell (Below.refl _ _) rfl
          have V_1 : w163.cell? ⟨wz.heap.size, 1, none⟩ = some (.slice zb zn zc9) := by rw [hw163]; exact box_cell (Below.refl _ _) rfl
          have V_2 : w163.cell? ⟨wz.heap.size, 2, none⟩ = some (.int .i64 x9.2.2) := by rw [hw163]; exact box_cell (Below.refl _ _) rfl
          have raw163_T_0 := T_0
          have raw163_T_1 := T_1
          have raw163_T_2 := T_2
          have raw163_Y_0 := Y_0
          have raw163_Y_1 := Y_1
          have raw163_Y_2 := Y_2
          have raw163_V_0 := V_0
          have raw163_V_1 := V_1
          have raw163_V_2 := V_2
          rw [hw163] at raw163_T_0 raw163_T_1 raw163_T_2 raw163_Y_0 raw163_Y_1 raw163_Y_2 raw163_V_0 raw163_V_1 raw163_V_2
          go_wp2_with fail
          rw [← hw163]
          clear hw163
          clear old163_T_0 old163_T_1 old163_T_2 old163_Y_0 old163_Y_1 old163_Y_2 raw163_T_0 raw163_T_1 raw163_T_2 raw163_Y_0 raw163_Y_1 raw163_Y_2 raw163_V_0 raw163_V_1 raw163_V_2
          have hq23 := on hq22 z163
          refine (fmtDp_impl _ x9 _ (oy.rd reads_Dp) hcyl).mono ?_
          rintro e wf ⟨rfl, zf⟩
          rw [HE9.out]
          have hq24 := on hq23 zf
          have s164 := zf.size
          have hb164 := on hb163 zf
          replace T_0 := bxc zf T_0
          replace T_1 := bxc zf T_1
          replace T_2 := bxc zf T_2
          replace oy := oy.below zf (by omega)
          replace Y_0 := bxc zf Y_0
          replace Y_1 := bxc zf Y_1
          replace Y_2 := bxc zf Y_2
          replace V_0 := bxc zf V_0
          replace V_1 := bxc zf V_1
          replace V_2 := bxc zf V_2
          go_wp2_with fail
          refine (validT_spec _ (nm3, A, rows) _ (HT.out _ hq24)).mono ?_
          rintro e wt ⟨rfl, zt⟩
          rw [HV9.out]
          have s165 := zt.size
          have hb165 := on hb164 zt
          replace T_0 := bxc zt T_0
          replace T_1 := bxc zt T_1
          replace T_2 := bxc zt T_2
          replace oy := oy.below zt (by omega)
          replace Y_0 := bxc zt Y_0
          replace Y_1 := bxc zt Y_1
          replace Y_2 := bxc zt Y_2
          replace V_0 := bxc zt V_0
          replace V_1 := bxc zt V_1
          replace V_2 := bxc zt V_2
          cases V9 with
          | false =>
            go_wp2_with fail
            go_ret
            exact ⟨rfl, hb165⟩
          | true =>
            have hp9 := HP9.out rfl
            have hp8 : decide (0 < KL.length) = true := by simpa using hp9
            have hp7 : (0 : Int) < (KL.length : Int) := by omega
            go_wp2_with fail
            go_ret
            exact ⟨rfl, hb165⟩

end Go.Proofs.YtpgfkjcekhifiaaGreatDoor
