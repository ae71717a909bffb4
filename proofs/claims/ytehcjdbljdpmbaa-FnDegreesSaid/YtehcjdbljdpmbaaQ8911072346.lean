/- Texts joined for one claim: LDegrees. -/
import Derived.Test.YtehcjdbljdpmbaaQ4ead1c25b7
import Derived.Test.YtehcjdbljdpmbaaQd2085769c3
import Derived.Test.YtehcjdbljdpmbaaQefb4fedfbc
import Derived.Test.YtehcjdbljdpmbaaQd8a9a20053

/- The walk of the law FnDegrees. -/
namespace Go.Proofs.Ytehcjdbljdpmbaa
open Go.RowKit
set_option linter.unusedVariables false
set_option linter.unusedSimpArgs false
set_option synthInstance.maxSize 2000
set_option synthInstance.maxHeartbeats 400000

theorem rT_open9 {w : World} {m : ByteArray} {a : Int} {b : Option Addr} {n c : Nat} {t : DT} (h : rT.rep w [.string m, .int .i64 a, .slice b n c] t) : m = t.1 ∧ a = t.2.1 ∧ n = t.2.2.length := by
  obtain ⟨b2, n2, c2, e, h1, h2, h3⟩ := rT_open h
  simp only [List.cons.injEq, Value.string.injEq, Value.int.injEq, Value.slice.injEq, true_and, and_true] at e
  obtain ⟨rfl, rfl, rfl, rfl, rfl⟩ := e
  exact ⟨rfl, rfl, (rS_sl h3).len.symm⟩

set_option maxRecDepth 100000 in
set_option maxHeartbeats 8000000 in
theorem walk_FnDegrees (v0 : Value) (w : World) (h0 : kB_in w v0) :
    Calls Try.prog 5 #[v0] w fun e w' => e = .returned (.bool true) ∧ Below w.heap.size w w' := by
  obtain ⟨ba, bn, bc, rfl, hB⟩ := h0
  have hb0 : Below w.heap.size w w := Below.refl _ _
  go_enter Try.func5, Try.ntmps5
  go_wp2_with fail
  refine (big_any _ _ _ _).mono ?_
  rintro e w' ⟨rfl, rfl⟩
  by_cases hbig : 1048576 < bn
  · have e9 : decide (1048576 < bn) = true := by simpa using hbig
    rw [e9]
    go_wp2_with fail
    go_ret
    exact ⟨rfl, hb0⟩
  have e9 : decide (1048576 < bn) = false := by simpa using hbig
  rw [e9]
  clear e9
  go_wp2_with fail
  refine (drawDegSeq_any _ ba bn bc (by omega) hB).mono ?_
  rintro e w1 ⟨t, cols, ub, un, uc, kb, kn, kc, rfl, hD, oC, hcl, z1⟩
  have s2 := z1.size
  have hb2 := on hb0 z1
  obtain ⟨hT, _, _, _, _⟩ := hD
  obtain ⟨_, _, hun⟩ := rT_open9 (hT.rd reads_T)
  subst hun
  obtain ⟨hkn, hkc, hkm, iC⟩ := rI_open9 (oC.rd reads_I)
  subst hkn
  obtain ⟨w3, hw3⟩ : ∃ W, W = w1.alloc (.cells #[.string t.1, .int .i64 t.2.1, .slice ub t.2.2.length uc] 34) := ⟨_, rfl⟩
  have z3 : Below w1.heap.size w1 w3 := by rw [hw3]; exact (Below.refl _ _).alloc (Nat.le_refl _) _
  have s3 : w3.heap.size = w1.heap.size + 1 := by rw [hw3]; simp
  have hb3 := on hb2 z3
  replace hT := hT.below z3 (by omega)
  replace oC := oC.below z3 (by omega)
  replace iC := iC.below z3
  have X_0 : w3.cell? ⟨w1.heap.size, 0, none⟩ = some (.string t.1) := by rw [hw3]; exact box_cell (Below.refl _ _) rfl
  have X_1 : w3.cell? ⟨w1.heap.size, 1, none⟩ = some (.int .i64 t.2.1) := by rw [hw3]; exact box_cell (Below.refl _ _) rfl
  have X_2 : w3.cell? ⟨w1.heap.size, 2, none⟩ = some (.slice ub t.2.2.length uc) := by rw [hw3]; exact box_cell (Below.refl _ _) rfl
  have raw3_X_0 := X_0
  have raw3_X_1 := X_1
  have raw3_X_2 := X_2
  rw [hw3] at raw3_X_0 raw3_X_1 raw3_X_2
  go_wp2_with fail
  rw [← hw3]
  clear hw3
  clear raw3_X_0 raw3_X_1 raw3_X_2
  refine (degSeq_impl _ _ t cols _ (hT.rd reads_T) (oC.rd reads_I)).mono ?_
  rintro e w4 ⟨lb, ln, lc, rfl, oL, z4⟩
  have s5 := z4.size
  have hb5 := on hb3 z4
  replace hT := hT.below z4 (by omega)
  replace oC := oC.below z4 (by omega)
  replace iC := iC.below z4
  replace X_0 := (z4.cell (p := ⟨w1.heap.size, 0, none⟩) (by simp only []; omega)).trans X_0
  replace X_1 := (z4.cell (p := ⟨w1.heap.size, 1, none⟩) (by simp only []; omega)).trans X_1
  replace X_2 := (z4.cell (p := ⟨w1.heap.size, 2, none⟩) (by simp only []; omega)).trans X_2
  have HF1 := Lib.hid (degSeq_deg t cols)
  have HF2 := Lib.hid (fun h => degSeq_total (t := t) (cs := cols) h)
  have HF3 := Lib.hid (maxDeg_get t cols)
  have HF4 := Lib.hid (fun h => maxDeg_take (t := t) (cs := cols) 1 h)
  have HF5 := Lib.hid (degSeq_len' t cols)
  have HF6 := Lib.hid (grpN_facts t cols).1
  obtain ⟨L, hL⟩ : ∃ q, degSeq t cols = q := ⟨_, rfl⟩
  rw [hL] at oL HF1 HF2 HF3 HF4 HF5
  obtain ⟨hln, hlc, hlm, iL⟩ := rI_open9 (oL.rd reads_I)
  subst hln
  go_wp2_with fail
  refine (groups_impl _ _ t cols _ (hT.rd reads_T) (oC.rd reads_I)).mono ?_
  rintro e w6 ⟨b1, n1, c1, b2, n2, c2, wm, rfl, oV, oN, hwm1, hwm2, z6⟩
  have s7 := z6.size
  have hb7 := on hb5 z6
  replace hT := hT.below z6 (by omega)
  replace oC := oC.below z6 (by omega)
  replace iC := iC.below z6
  replace X_0 := (z6.cell (p := ⟨w1.heap.size, 0, none⟩) (by simp only []; omega)).trans X_0
  replace X_1 := (z6.cell (p := ⟨w1.heap.size, 1, none⟩) (by simp only []; omega)).trans X_1
  replace X_2 := (z6.cell (p := ⟨w1.heap.size, 2, none⟩) (by simp only []; omega)).trans X_2
  replace oL := oL.below z6 (by omega)
  replace iL := iL.below z6
  obtain rfl : L.length = n1 := by rw [← (rS_sl (oV.rd reads_II)).len, HF5.out, HF6.out]
  obtain rfl : L.length = n2 := by rw [(rI_open9 (oN.rd reads_I)).1, HF5.out]
  clear oV oN hwm1 hwm2 wm HF5 HF6
  go_wp2_with fail
  refine (degSeq_spec _ _ t cols _ (hT.rd reads_T) (oC.rd reads_I)).mono ?_
  rintro e w8 ⟨sb, sn, sc, rfl, oS, z8⟩
  have s9 := z8.size
  have hb9 := on hb7 z8
  replace hT := hT.below z8 (by omega)
  replace oC := oC.below z8 (by omega)
  replace iC := iC.below z8
  replace X_0 := (z8.cell (p := ⟨w1.heap.size, 0, none⟩) (by simp only []; omega)).trans X_0
  replace X_1 := (z8.cell (p := ⟨w1.heap.size, 1, none⟩) (by simp only []; omega)).trans X_1
  replace X_2 := (z8.cell (p := ⟨w1.heap.size, 2, none⟩) (by simp only []; omega)).trans X_2
  replace oL := oL.below z8 (by omega)
  replace iL := iL.below z8
  rw [hL] at oS
  obtain ⟨hsn, _, _, iS⟩ := rI_open9 (oS.rd reads_I)
  subst hsn
  go_wp2_with fail
  refine (sameInts_eq _ _ _ _ _ L _ iL iS).mono ?_
  rintro e w10 ⟨rfl, z10⟩
  replace z10 : Below w8.heap.size w8 w10 := z10.below _
  have s11 := z10.size
  have hb11 := on hb9 z10
  replace hT := hT.below z10 (by omega)
  replace oC := oC.below z10 (by omega)
  replace iC := iC.below z10
  replace X_0 := (z10.cell (p := ⟨w1.heap.size, 0, none⟩) (by simp only []; omega)).trans X_0
  replace X_1 := (z10.cell (p := ⟨w1.heap.size, 1, none⟩) (by simp only []; omega)).trans X_1
  replace X_2 := (z10.cell (p := ⟨w1.heap.size, 2, none⟩) (by simp only []; omega)).trans X_2
  replace oL := oL.below z10 (by omega)
  replace iL := iL.below z10
  clear iS oS
  go_wp2_with fail
  refine (isDeg_impl _ _ _ L _ iL).mono ?_
  rintro e w' ⟨rfl, rfl⟩
  rw [HF1.out]
  go_wp2_with fail
  clear hL HF1
  obtain ⟨wq, rfl⟩ : ∃ W, W = w10 := ⟨_, rfl⟩
  have HMX := Lib.hid (fun W (hW : Below wq.heap.size wq W) => maxDeg_impl _ _ t cols W (rT.mono (hT.rd reads_T) hW) (rI.mono (oC.rd reads_I) hW))
  have HM1 := Lib.hid (fun (g : Nat) (e : kb = some ⟨g, 0, none⟩) (h1 : 1 ≤ cols.length) W (hW : Below wq.heap.size wq W) => maxDeg_impl (.slice (some ⟨g, 0, none⟩) 1 kc) _ t (cols.take 1) W (rT.mono (hT.rd reads_T) hW) (rI_mk (by subst e; exact (iC.below hW).take h1) (by omega) hkm))
  obtain ⟨MX, hMX⟩ : ∃ q, maxDeg t cols = q := ⟨_, rfl⟩
  obtain ⟨M1, hM1⟩ : ∃ q, maxDeg t (cols.take 1) = q := ⟨_, rfl⟩
  simp only [hMX] at HMX HF3 HF4
  simp only [hM1] at HM1 HF4
  clear hMX hM1
  have HK : Hid (1 < cols.length → ∃ g, kb = some ⟨g, 0, none⟩) := Lib.hid (fun h => own_some oC (by omega))
  clear hT oC iC
  by_cases hl : 0 < L.length
  · skip
    obtain ⟨g, rfl⟩ := own_some oL hl
    have hl0 : ((L.length : Nat) : Int) > 0 := by omega
    obtain ⟨b7, o7, l0, h7a, c7, hx7, _, _⟩ := iL.get (k := 0) hl
    simp only [Option.some.injEq, Addr.mk.injEq] at h7a
    obtain ⟨rfl, rfl, _⟩ := h7a
    rw [Nat.zero_add] at c7
    have hl00 : L.getD 0 0 = l0 := hx7.out
    have hsum := HF2.out hl
    have hmx := HF3.out
    rw [hl00] at hmx
    have hdr : Below wq.heap.size wq wq.drew := (Below.refl _ _).drew
    refine wp_region_noPanic ?_
    refine wp_region_held_drew (S := (fun W => W.cell? ⟨g, 0, none⟩ = some (.int .i64 l0) ∧ W.cell? ⟨w1.heap.size, 0, none⟩ = some (.string t.1) ∧ W.cell? ⟨w1.heap.size, 1, none⟩ = some (.int .i64 t.2.1) ∧ W.cell? ⟨w1.heap.size, 2, none⟩ = some (.slice ub t.2.2.length uc))) (by kernel_rfl) ?hS12 (fun hHeld => ?_)
    case hS12 => exact ⟨c7, X_0, X_1, X_2⟩
    refine wpAnyH_take (i := 0) (v := ?v0_13) rfl (by kernel_rfl) (by kernel_rfl) (by kernel_rfl) (fun _ _ _ h => h) (Or.inl ⟨by rfl, ?hy0_13⟩) (by assumption) ?rest0_13
    case hy0_13 => intro w hSw; (try dsimp only at hSw); go_simp; (try with_reducible rfl)
    try simp only [Act.put, List.getElem_toArray, List.getElem_cons_succ, List.getElem_cons_zero, List.setIfInBounds_toArray, List.set_cons_zero, List.set_cons_succ]
    refine wpAnyH_take (i := 1) (v := ?v1_14) rfl (by kernel_rfl) (by kernel_rfl) (by kernel_rfl) (fun _ _ _ h => h) (Or.inl ⟨by rfl, ?hy1_14⟩) (by assumption) ?rest1_14
    case hy1_14 => intro w hSw; (try dsimp only at hSw); go_simp; (try with_reducible rfl)
    try simp only [Act.put, List.getElem_toArray, List.getElem_cons_succ, List.getElem_cons_zero, List.setIfInBounds_toArray, List.set_cons_zero, List.set_cons_succ]
    refine wpAnyH_take (i := 2) (v := ?v2_15) rfl (by kernel_rfl) (by kernel_rfl) (by kernel_rfl) (fun _ _ _ h => h) (Or.inl ⟨by rfl, ?hy2_15⟩) (by assumption) ?rest2_15
    case hy2_15 => intro w hSw; (try dsimp only at hSw); go_simp; (try with_reducible rfl)
    try simp only [Act.put, List.getElem_toArray, List.getElem_cons_succ, List.getElem_cons_zero, List.setIfInBounds_toArray, List.set_cons_zero, List.set_cons_succ]
    refine wpAnyH_take (i := 3) (v := ?v3_16) rfl (by kernel_rfl) (by kernel_rfl) (by kernel_rfl) (fun _ _ _ h => h) (Or.inl ⟨by rfl, ?hy3_16⟩) (by assumption) ?rest3_16
    case hy3_16 => intro w hSw; (try dsimp only at hSw); go_simp; (try with_reducible rfl)
    try simp only [Act.put, List.getElem_toArray, List.getElem_cons_succ, List.getElem_cons_zero, List.setIfInBounds_toArray, List.set_cons_zero, List.set_cons_succ]
    refine wpAnyH_take (i := 4) (v := ?v4_17) rfl (by kernel_rfl) (by kernel_rfl) (by kernel_rfl) (fun _ _ _ h => h) (Or.inl ⟨by rfl, ?hy4_17⟩) (by assumption) ?rest4_17
    case hy4_17 => intro w hSw; (try dsimp only at hSw); go_simp; (try with_reducible rfl)
    try simp only [Act.put, List.getElem_toArray, List.getElem_cons_succ, List.getElem_cons_zero, List.setIfInBounds_toArray, List.set_cons_zero, List.set_cons_succ]
    refine wpAnyH_take (i := 6) (v := ?v6_18) rfl (by kernel_rfl) (by kernel_rfl) (by kernel_rfl) (fun _ _ _ h => h) (Or.inl ⟨by rfl, ?hy6_18⟩) (by assumption) ?rest6_18
    case hy6_18 => intro w hSw; (try dsimp only at hSw); go_simp; (try with_reducible rfl)
    try simp only [Act.put, List.getElem_toArray, List.getElem_cons_succ, List.getElem_cons_zero, List.setIfInBounds_toArray, List.set_cons_zero, List.set_cons_succ]
    refine wpAnyH_take (i := 7) (v := ?v7_19) rfl (by kernel_rfl) (by kernel_rfl) (by kernel_rfl) (fun _ _ _ h => h) (Or.inl ⟨by rfl, ?hy7_19⟩) (by assumption) ?rest7_19
    case hy7_19 => intro w hSw; (try dsimp only at hSw); go_simp; (try with_reducible rfl)
    try simp only [Act.put, List.getElem_toArray, List.getElem_cons_succ, List.getElem_cons_zero, List.setIfInBounds_toArray, List.set_cons_zero, List.set_cons_succ]
    refine wpAnyH_take (i := 8) (v := ?v8_20) rfl (by kernel_rfl) (by kernel_rfl) (by kernel_rfl) (fun _ _ _ h => h) (Or.inl ⟨by rfl, ?hy8_20⟩) (by assumption) ?rest8_20
    case hy8_20 => intro w hSw; (try dsimp only at hSw); go_simp; (try with_reducible rfl)
    try simp only [Act.put, List.getElem_toArray, List.getElem_cons_succ, List.getElem_cons_zero, List.setIfInBounds_toArray, List.set_cons_zero, List.set_cons_succ]
    refine wpAnyH_ready (rs := [5]) (by kernel_rfl) (by simp) ?_
    refine AllReadyH.cons rfl (fun K hK => ?_) AllReadyH.nil
    go_simp; (refine (seqTotal_impl _ _ _ L _ (iL.below hdr)).mono ?_); rintro e wA ⟨rfl, e9⟩; rw [hsum]; have zA : Below wq.heap.size wq wA := by { rw [← e9]; exact hdr }; clear e9; have sA := zA.size; have g_0 := (zA.cell (p := ⟨w1.heap.size, 0, none⟩) (by simp only []; omega)).trans X_0; have g_1 := (zA.cell (p := ⟨w1.heap.size, 1, none⟩) (by simp only []; omega)).trans X_1; have g_2 := (zA.cell (p := ⟨w1.heap.size, 2, none⟩) (by simp only []; omega)).trans X_2; have g_7 := (zA.cell (p := ⟨g, 0, none⟩) (cell_lt c7)).trans c7
    refine hK.out _ _ ?_ (fun hHeld => ?_)
    · exact ⟨g_7, g_0, g_1, g_2⟩
    clear hK K
    try simp only [Act.put, List.setIfInBounds_toArray, List.set_cons_zero, List.set_cons_succ]
    refine wpAnyH_take (i := 9) (v := ?v9_21) rfl (by kernel_rfl) (by kernel_rfl) (by kernel_rfl) (fun _ _ _ h => h) (Or.inl ⟨by rfl, ?hy9_21⟩) (by assumption) ?rest9_21
    case hy9_21 => intro w hSw; (try dsimp only at hSw); go_simp; (try with_reducible rfl)
    try simp only [Act.put, List.getElem_toArray, List.getElem_cons_succ, List.getElem_cons_zero, List.setIfInBounds_toArray, List.set_cons_zero, List.set_cons_succ]
    refine wpAnyH_take (i := 10) (v := ?v10_22) rfl (by kernel_rfl) (by kernel_rfl) (by kernel_rfl) (fun _ _ _ h => h) (Or.inl ⟨by rfl, ?hy10_22⟩) (by assumption) ?rest10_22
    case hy10_22 => intro w hSw; (try dsimp only at hSw); go_simp; (try with_reducible rfl)
    try simp only [Act.put, List.getElem_toArray, List.getElem_cons_succ, List.getElem_cons_zero, List.setIfInBounds_toArray, List.set_cons_zero, List.set_cons_succ]
    refine wpAnyH_take (i := 11) (v := ?v11_23) rfl (by kernel_rfl) (by kernel_rfl) (by kernel_rfl) (fun _ _ _ h => h) (Or.inl ⟨by rfl, ?hy11_23⟩) (by assumption) ?rest11_23
    case hy11_23 => intro w hSw; (try dsimp only at hSw); go_simp; (try with_reducible rfl)
    try simp only [Act.put, List.getElem_toArray, List.getElem_cons_succ, List.getElem_cons_zero, List.setIfInBounds_toArray, List.set_cons_zero, List.set_cons_succ]
    refine wpAnyH_take (i := 12) (v := ?v12_24) rfl (by kernel_rfl) (by kernel_rfl) (by kernel_rfl) (fun _ _ _ h => h) (Or.inl ⟨by rfl, ?hy12_24⟩) (by assumption) ?rest12_24
    case hy12_24 => intro w hSw; (try dsimp only at hSw); go_simp; (try with_reducible rfl)
    try simp only [Act.put, List.getElem_toArray, List.getElem_cons_succ, List.getElem_cons_zero, List.setIfInBounds_toArray, List.set_cons_zero, List.set_cons_succ]
    refine wpAnyH_take (i := 14) (v := ?v14_25) rfl (by kernel_rfl) (by kernel_rfl) (by kernel_rfl) (fun _ _ _ h => h) (Or.inl ⟨by rfl, ?hy14_25⟩) (by assumption) ?rest14_25
    case hy14_25 => intro w hSw; (try dsimp only at hSw); go_simp; (try with_reducible rfl)
    try simp only [Act.put, List.getElem_toArray, List.getElem_cons_succ, List.getElem_cons_zero, List.setIfInBounds_toArray, List.set_cons_zero, List.set_cons_succ]
    refine wpAnyH_take (i := 15) (v := ?v15_26) rfl (by kernel_rfl) (by kernel_rfl) (by kernel_rfl) (fun _ _ _ h => h) (Or.inl ⟨by rfl, ?hy15_26⟩) (by assumption) ?rest15_26
    case hy15_26 => intro w hSw; (try dsimp only at hSw); go_simp; (try with_reducible rfl)
    try simp only [Act.put, List.getElem_toArray, List.getElem_cons_succ, List.getElem_cons_zero, List.setIfInBounds_toArray, List.set_cons_zero, List.set_cons_succ]
    refine wpAnyH_take (i := 16) (v := ?v16_27) rfl (by kernel_rfl) (by kernel_rfl) (by kernel_rfl) (fun _ _ _ h => h) (Or.inl ⟨by rfl, ?hy16_27⟩) (by assumption) ?rest16_27
    case hy16_27 => intro w hSw; (try dsimp only at hSw); go_simp; (try with_reducible rfl)
    try simp only [Act.put, List.getElem_toArray, List.getElem_cons_succ, List.getElem_cons_zero, List.setIfInBounds_toArray, List.set_cons_zero, List.set_cons_succ]
    refine wpAnyH_ready (rs := [13]) (by kernel_rfl) (by simp) ?_
    refine AllReadyH.cons rfl (fun K hK => ?_) AllReadyH.nil
    go_simp; (refine (HMX.out _ zA).mono ?_); rintro e wB ⟨rfl, zB⟩; rw [hmx]; have sB := zB.size; have zAB := on zA zB; have k_0 := (zB.cell (p := ⟨w1.heap.size, 0, none⟩) (by simp only []; omega)).trans g_0; have k_1 := (zB.cell (p := ⟨w1.heap.size, 1, none⟩) (by simp only []; omega)).trans g_1; have k_2 := (zB.cell (p := ⟨w1.heap.size, 2, none⟩) (by simp only []; omega)).trans g_2; have k_7 := (zB.cell (p := ⟨g, 0, none⟩) (Nat.lt_of_lt_of_le (cell_lt c7) sA)).trans g_7
    refine hK.out _ _ ?_ (fun hHeld => ?_)
    · exact ⟨k_7, k_0, k_1, k_2⟩
    clear hK K
    try simp only [Act.put, List.setIfInBounds_toArray, List.set_cons_zero, List.set_cons_succ]
    refine wpAnyH_take (i := 17) (v := ?v17_28) rfl (by kernel_rfl) (by kernel_rfl) (by kernel_rfl) (fun _ _ _ h => h) (Or.inl ⟨by rfl, ?hy17_28⟩) (by assumption) ?rest17_28
    case hy17_28 => intro w hSw; (try dsimp only at hSw); go_simp; (try with_reducible rfl)
    try simp only [Act.put, List.getElem_toArray, List.getElem_cons_succ, List.getElem_cons_zero, List.setIfInBounds_toArray, List.set_cons_zero, List.set_cons_succ]
    refine wpAnyH_take (i := 18) (v := ?v18_29) rfl (by kernel_rfl) (by kernel_rfl) (by kernel_rfl) (fun _ _ _ h => h) (Or.inl ⟨by rfl, ?hy18_29⟩) (by assumption) ?rest18_29
    case hy18_29 => intro w hSw; (try dsimp only at hSw); go_simp; (try with_reducible rfl)
    try simp only [Act.put, List.getElem_toArray, List.getElem_cons_succ, List.getElem_cons_zero, List.setIfInBounds_toArray, List.set_cons_zero, List.set_cons_succ]
    refine wpAnyH_take (i := 19) (v := ?v19_30) rfl (by kernel_rfl) (by kernel_rfl) (by kernel_rfl) (fun _ _ _ h => h) (Or.inl ⟨by rfl, ?hy19_30⟩) (by assumption) ?rest19_30
    case hy19_30 => intro w hSw; (try dsimp only at hSw); go_simp; (try with_reducible rfl)
    try simp only [Act.put, List.getElem_toArray, List.getElem_cons_succ, List.getElem_cons_zero, List.setIfInBounds_toArray, List.set_cons_zero, List.set_cons_succ]
    refine wpAnyH_done (by kernel_rfl) ?_ _
    refine NoPanic.normal ?_
    clear g_0 g_1 g_2 g_7 k_0 k_1 k_2 k_7 c7 hx7 zA zB hdr hmx hsum
    have s31 := zAB.size
    have hb31 := on hb11 zAB
    replace X_0 := (zAB.cell (p := ⟨w1.heap.size, 0, none⟩) (by simp only []; omega)).trans X_0
    replace X_1 := (zAB.cell (p := ⟨w1.heap.size, 1, none⟩) (by simp only []; omega)).trans X_1
    replace X_2 := (zAB.cell (p := ⟨w1.heap.size, 2, none⟩) (by simp only []; omega)).trans X_2
    replace oL := oL.below zAB (by omega)
    replace iL := iL.below zAB
    have hwB : Below wq.heap.size wq wB := zAB
    go_wp2_with fail
    by_cases hk : 1 < cols.length
    · skip
      have hk0 : ((cols.length : Nat) : Int) > 1 := by omega
      obtain ⟨g3, e3⟩ := HK.out hk
      subst e3
      have hle := HF4.out hl
      have hdr : Below wB.heap.size wB wB.drew := (Below.refl _ _).drew
      refine wp_region_noPanic ?_
      refine wp_region_held_drew (S := (fun W => W.cell? ⟨w1.heap.size, 0, none⟩ = some (.string t.1) ∧ W.cell? ⟨w1.heap.size, 1, none⟩ = some (.int .i64 t.2.1) ∧ W.cell? ⟨w1.heap.size, 2, none⟩ = some (.slice ub t.2.2.length uc))) (by kernel_rfl) ?hS32 (fun hHeld => ?_)
      case hS32 => exact ⟨X_0, X_1, X_2⟩
      refine wpAnyH_take (i := 0) (v := ?v0_33) rfl (by kernel_rfl) (by kernel_rfl) (by kernel_rfl) (fun _ _ _ h => h) (Or.inl ⟨by rfl, ?hy0_33⟩) (by assumption) ?rest0_33
      case hy0_33 => intro w hSw; (try dsimp only at hSw); go_simp; (try with_reducible rfl)
      try simp only [Act.put, List.getElem_toArray, List.getElem_cons_succ, List.getElem_cons_zero, List.setIfInBounds_toArray, List.set_cons_zero, List.set_cons_succ]
      refine wpAnyH_take (i := 1) (v := ?v1_34) rfl (by kernel_rfl) (by kernel_rfl) (by kernel_rfl) (fun _ _ _ h => h) (Or.inl ⟨by rfl, ?hy1_34⟩) (by assumption) ?rest1_34
      case hy1_34 => intro w hSw; (try dsimp only at hSw); go_simp; (try with_reducible rfl)
      try simp only [Act.put, List.getElem_toArray, List.getElem_cons_succ, List.getElem_cons_zero, List.setIfInBounds_toArray, List.set_cons_zero, List.set_cons_succ]
      refine wpAnyH_take (i := 2) (v := ?v2_35) rfl (by kernel_rfl) (by kernel_rfl) (by kernel_rfl) (fun _ _ _ h => h) (Or.inl ⟨by rfl, ?hy2_35⟩) (by assumption) ?rest2_35
      case hy2_35 => intro w hSw; (try dsimp only at hSw); go_simp; (try with_reducible rfl)
      try simp only [Act.put, List.getElem_toArray, List.getElem_cons_succ, List.getElem_cons_zero, List.setIfInBounds_toArray, List.set_cons_zero, List.set_cons_succ]
      refine wpAnyH_take (i := 3) (v := ?v3_36) rfl (by kernel_rfl) (by kernel_rfl) (by kernel_rfl) (fun _ _ _ h => h) (Or.inl ⟨by rfl, ?hy3_36⟩) (by assumption) ?rest3_36
      case hy3_36 => intro w hSw; (try dsimp only at hSw); go_simp; (try with_reducible rfl)
      try simp only [Act.put, List.getElem_toArray, List.getElem_cons_succ, List.getElem_cons_zero, List.setIfInBounds_toArray, List.set_cons_zero, List.set_cons_succ]
      refine wpAnyH_take (i := 4) (v := ?v4_37) rfl (by kernel_rfl) (by kernel_rfl) (by kernel_rfl) (fun _ _ _ h => h) (Or.inl ⟨by rfl, ?hy4_37⟩) (by assumption) ?rest4_37
      case hy4_37 => intro w hSw; (try dsimp only at hSw); go_simp; (try with_reducible rfl)
      try simp only [Act.put, List.getElem_toArray, List.getElem_cons_succ, List.getElem_cons_zero, List.setIfInBounds_toArray, List.set_cons_zero, List.set_cons_succ]
      refine wpAnyH_take (i := 5) (v := ?v5_38) rfl (by kernel_rfl) (by kernel_rfl) (by kernel_rfl) (fun _ _ _ h => h) (Or.inl ⟨by rfl, ?hy5_38⟩) (by assumption) ?rest5_38
      case hy5_38 => intro w hSw; (try dsimp only at hSw); go_simp; (try with_reducible rfl)
      try simp only [Act.put, List.getElem_toArray, List.getElem_cons_succ, List.getElem_cons_zero, List.setIfInBounds_toArray, List.set_cons_zero, List.set_cons_succ]
      refine wpAnyH_take (i := 6) (v := ?v6_39) rfl (by kernel_rfl) (by kernel_rfl) (by kernel_rfl) (fun _ _ _ h => h) (Or.inl ⟨by rfl, ?hy6_39⟩) (by assumption) ?rest6_39
      case hy6_39 => intro w hSw; (try dsimp only at hSw); go_simp; (try with_reducible rfl)
      try simp only [Act.put, List.getElem_toArray, List.getElem_cons_succ, List.getElem_cons_zero, List.setIfInBounds_toArray, List.set_cons_zero, List.set_cons_succ]
      refine wpAnyH_take (i := 7) (v := ?v7_40) rfl (by kernel_rfl) (by kernel_rfl) (by kernel_rfl) (fun _ _ _ h => h) (Or.inl ⟨by rfl, ?hy7_40⟩) (by assumption) ?rest7_40
      case hy7_40 => intro w hSw; (try dsimp only at hSw); go_simp; (try with_reducible rfl)
      try simp only [Act.put, List.getElem_toArray, List.getElem_cons_succ, List.getElem_cons_zero, List.setIfInBounds_toArray, List.set_cons_zero, List.set_cons_succ]
      refine wpAnyH_take (i := 8) (v := ?v8_41) rfl (by kernel_rfl) (by kernel_rfl) (by kernel_rfl) (fun _ _ _ h => h) (Or.inl ⟨by rfl, ?hy8_41⟩) (by assumption) ?rest8_41
      case hy8_41 => intro w hSw; (try dsimp only at hSw); go_simp; (try with_reducible rfl)
      try simp only [Act.put, List.getElem_toArray, List.getElem_cons_succ, List.getElem_cons_zero, List.setIfInBounds_toArray, List.set_cons_zero, List.set_cons_succ]
      refine wpAnyH_take (i := 9) (v := ?v9_42) rfl (by kernel_rfl) (by kernel_rfl) (by kernel_rfl) (fun _ _ _ h => h) (Or.inl ⟨by rfl, ?hy9_42⟩) (by assumption) ?rest9_42
      case hy9_42 => intro w hSw; (try dsimp only at hSw); go_simp; (try with_reducible rfl)
      try simp only [Act.put, List.getElem_toArray, List.getElem_cons_succ, List.getElem_cons_zero, List.setIfInBounds_toArray, List.set_cons_zero, List.set_cons_succ]
      refine wpAnyH_take (i := 10) (v := ?v10_43) rfl (by kernel_rfl) (by kernel_rfl) (by kernel_rfl) (fun _ _ _ h => h) (Or.inl ⟨by rfl, ?hy10_43⟩) (by assumption) ?rest10_43
      case hy10_43 => intro w hSw; (try dsimp only at hSw); go_simp; (try with_reducible rfl)
      try simp only [Act.put, List.getElem_toArray, List.getElem_cons_succ, List.getElem_cons_zero, List.setIfInBounds_toArray, List.set_cons_zero, List.set_cons_succ]
      refine wpAnyH_take (i := 12) (v := ?v12_44) rfl (by kernel_rfl) (by kernel_rfl) (by kernel_rfl) (fun _ _ _ h => h) (Or.inl ⟨by rfl, ?hy12_44⟩) (by assumption) ?rest12_44
      case hy12_44 => intro w hSw; (try dsimp only at hSw); go_simp; (try with_reducible rfl)
      try simp only [Act.put, List.getElem_toArray, List.getElem_cons_succ, List.getElem_cons_zero, List.setIfInBounds_toArray, List.set_cons_zero, List.set_cons_succ]
      refine wpAnyH_take (i := 13) (v := ?v13_45) rfl (by kernel_rfl) (by kernel_rfl) (by kernel_rfl) (fun _ _ _ h => h) (Or.inl ⟨by rfl, ?hy13_45⟩) (by assumption) ?rest13_45
      case hy13_45 => intro w hSw; (try dsimp only at hSw); go_simp; (try with_reducible rfl)
      try simp only [Act.put, List.getElem_toArray, List.getElem_cons_succ, List.getElem_cons_zero, List.setIfInBounds_toArray, List.set_cons_zero, List.set_cons_succ]
      have hkc1 : (1 : Int) ≤ (kc : Int) := by omega
      refine wpAnyH_take (i := 14) (v := .slice (some ⟨g3, 0, none⟩) 1 kc) rfl (by kernel_rfl) (by kernel_rfl) (by kernel_rfl) (fun _ _ _ h => h) (Or.inl ⟨by rfl, ?hy14⟩) (by assumption) ?rest14
      case hy14 => intro w hSw; (try dsimp only at hSw); go_simp; (try (first | (with_reducible rfl) | (rw [if_pos hkc1]) | (simp [hkc1]))); (try rfl)
      try simp only [Act.put, List.getElem_toArray, List.getElem_cons_succ, List.getElem_cons_zero, List.setIfInBounds_toArray, List.set_cons_zero, List.set_cons_succ]
      refine wpAnyH_ready (rs := [11]) (by kernel_rfl) (by simp) ?_
      refine AllReadyH.cons rfl (fun K9 hK9 => ?_) AllReadyH.nil
      go_simp
      (refine (HMX.out _ (on hwB hdr)).mono ?_)
      rintro e wA ⟨rfl, zA⟩
      replace zA : Below wB.heap.size wB wA := on hdr zA
      have sA := zA.size
      have g_0 := (zA.cell (p := ⟨w1.heap.size, 0, none⟩) (by simp only []; omega)).trans X_0
      have g_1 := (zA.cell (p := ⟨w1.heap.size, 1, none⟩) (by simp only []; omega)).trans X_1
      have g_2 := (zA.cell (p := ⟨w1.heap.size, 2, none⟩) (by simp only []; omega)).trans X_2
      refine hK9.out _ _ ?_ (fun hHeld => ?_)
      · exact ⟨g_0, g_1, g_2⟩
      clear hK9 K9
      try simp only [Act.put, List.getElem_toArray, List.getElem_cons_succ, List.getElem_cons_zero, List.setIfInBounds_toArray, List.set_cons_zero, List.set_cons_succ]
      refine wpAnyH_ready (rs := [15]) (by kernel_rfl) (by simp) ?_
      refine AllReadyH.cons rfl (fun K hK => ?_) AllReadyH.nil
      go_simp; (refine (HM1.out g3 rfl (by omega) _ (on hwB zA)).mono ?_); rintro e wC ⟨rfl, zC⟩; have sC := zC.size; have k_0 := (zC.cell (p := ⟨w1.heap.size, 0, none⟩) (by simp only []; omega)).trans g_0; have k_1 := (zC.cell (p := ⟨w1.heap.size, 1, none⟩) (by simp only []; omega)).trans g_1; have k_2 := (zC.cell (p := ⟨w1.heap.size, 2, none⟩) (by simp only []; omega)).trans g_2
      refine hK.out _ _ ?_ (fun hHeld => ?_)
      · exact ⟨k_0, k_1, k_2⟩
      clear hK K
      try simp only [Act.put, List.setIfInBounds_toArray, List.set_cons_zero, List.set_cons_succ]
      have hng : ¬ MX > M1 := by omega
      refine wpAnyH_take (i := 16) (v := ?v16_46) rfl (by kernel_rfl) (by kernel_rfl) (by kernel_rfl) (fun _ _ _ h => h) (Or.inl ⟨by rfl, ?hy16_46⟩) (by assumption) ?rest16_46
      case hy16_46 => intro w hSw; (try dsimp only at hSw); go_simp; (try with_reducible rfl)
      try simp only [Act.put, List.getElem_toArray, List.getElem_cons_succ, List.getElem_cons_zero, List.setIfInBounds_toArray, List.set_cons_zero, List.set_cons_succ]
      refine wpAnyH_take (i := 17) (v := ?v17_47) rfl (by kernel_rfl) (by kernel_rfl) (by kernel_rfl) (fun _ _ _ h => h) (Or.inl ⟨by rfl, ?hy17_47⟩) (by assumption) ?rest17_47
      case hy17_47 => intro w hSw; (try dsimp only at hSw); go_simp; (try with_reducible rfl)
      try simp only [Act.put, List.getElem_toArray, List.getElem_cons_succ, List.getElem_cons_zero, List.setIfInBounds_toArray, List.set_cons_zero, List.set_cons_succ]
      refine wpAnyH_done (by kernel_rfl) ?_ _
      refine NoPanic.normal ?_
      have zAC := on zA zC
      clear g_0 g_1 g_2 k_0 k_1 k_2 zA zC hdr
      have s48 := zAC.size
      have hb48 := on hb31 zAC
      replace X_0 := (zAC.cell (p := ⟨w1.heap.size, 0, none⟩) (by simp only []; omega)).trans X_0
      replace X_1 := (zAC.cell (p := ⟨w1.heap.size, 1, none⟩) (by simp only []; omega)).trans X_1
      replace X_2 := (zAC.cell (p := ⟨w1.heap.size, 2, none⟩) (by simp only []; omega)).trans X_2
      replace oL := oL.below zAC (by omega)
      replace iL := iL.below zAC
      clear X_0 X_1 X_2
      go_wp2_with fail
      refine (drawDom_any _ ba bn bc (by omega) (hB.at hb48)).mono ?_
      rintro e w49 ⟨b1, n1, c1, xs, b2, n2, c2, ys, rfl, oA, oB, hab, z49⟩
      have s50 := z49.size
      have hb50 := on hb48 z49
      replace oL := oL.below z49 (by omega)
      replace iL := iL.below z49
      obtain ⟨hn1, hc1, hm1, iA⟩ := rI_open9 (oA.rd reads_I)
      obtain ⟨hn2, hc2, hm2, iB⟩ := rI_open9 (oB.rd reads_I)
      subst hn1
      subst hn2
      obtain ⟨p, hp⟩ : ∃ p, dominates xs ys = p := ⟨_, rfl⟩
      have HDM := Lib.hid (fun W (hW : Below w49.heap.size w49 W) => dominates_impl b1 b2 _ _ c1 c2 xs ys W (iA.below hW) (iB.below hW) ⟨hc1, hm1⟩ ⟨hc2, hm2⟩)
      have HDS := Lib.hid (fun W (hW : Below w49.heap.size w49 W) => dominates_spec b1 b2 _ _ c1 c2 xs ys W (iA.below hW) (iB.below hW))
      have HTA := Lib.hid (fun (k : Int) (hk : I64 k) W (hW : Below w49.heap.size w49 W) => topDeg_impl b1 _ c1 xs k W (iA.below hW) hc1 hm1 hk)
      have HTB := Lib.hid (fun (k : Int) (hk : I64 k) W (hW : Below w49.heap.size w49 W) => topDeg_impl b2 _ c2 ys k W (iB.below hW) hc2 hm2 hk)
      have HTT := Lib.hid (fun W (hW : Below w49.heap.size w49 W) => seqTotal_impl b1 _ c1 xs W (iA.below hW))
      rw [hp] at HDM HDS
      have HLE : Hid (p = true → ∀ k : Nat, k ≤ 8 → topDeg ys (k : Int) ≤ topDeg xs (k : Int)) := Lib.hid (fun h9 k hk => dom_top (hp.trans h9) hk)
      have HAL := Lib.hid (top_all xs)
      clear hp iA iB oA oB hc1 hm1 hc2 hm2 hB
      obtain ⟨wq, rfl⟩ : ∃ W, W = w49 := ⟨_, rfl⟩
      have hbq : Below wq.heap.size wq wq := Below.refl _ _
      go_wp2_with fail
      refine (HDM.out _ hbq).mono ?_
      rintro e w' ⟨rfl, rfl⟩
      go_wp2_with fail
      refine (HDS.out _ hbq).mono ?_
      rintro e wz ⟨rfl, zz⟩
      have zq : Below wq.heap.size wq wz := zz.below _
      have hbz := on hb50 zq
      have hpp : (p != p) = false := by simp
      clear HDM HDS
      go_wp2_with fail
      go_loopw [11] (fun i wr => ∃ j : Nat, j ≤ 9 ∧ i = .int .i64 (j : Int) ∧ wz = wr) (fun i _ => 9 - (intOf i).toNat)
      case atStart => exact ⟨0, Nat.zero_le _, rfl, rfl⟩
      case round =>
        obtain ⟨j, hj, rfl, rfl⟩ := hrel
        by_cases hlt : j ≤ 8
        · have hlj : (j : Int) ≤ 8 := by omega
          cases p with
          | false =>
            go_wp2_with fail
            go_roundw
            case rel => exact ⟨j + 1, by omega, by go_num, trivial⟩
            case measure => simp [intOf]; omega
          | true =>
            have hle := HLE.out rfl j hlt
            go_wp2_with fail
            refine (HTA.out (j : Int) ⟨by omega, by omega⟩ _ zq).mono ?_
            rintro e w' ⟨rfl, rfl⟩
            go_wp2_with fail
            refine (HTB.out (j : Int) ⟨by omega, by omega⟩ _ zq).mono ?_
            rintro e w' ⟨rfl, rfl⟩
            obtain ⟨q1, hq1⟩ : ∃ q, topDeg xs (j : Int) = q := ⟨_, rfl⟩
            obtain ⟨q2, hq2⟩ : ∃ q, topDeg ys (j : Int) = q := ⟨_, rfl⟩
            rw [hq1, hq2] at hle
            rw [hq1, hq2]
            have hnl : ¬ q1 < q2 := by omega
            go_wp2_with fail
            go_roundw
            case rel => exact ⟨j + 1, by omega, by go_num, trivial⟩
            case measure => simp [intOf]; omega
        · have hlj : ¬ (j : Int) ≤ 8 := by omega
          go_wp2_with fail
          refine (HTA.out 8 ⟨by omega, by omega⟩ _ zq).mono ?_
          rintro e w' ⟨rfl, rfl⟩
          go_wp2_with fail
          refine (HTT.out _ zq).mono ?_
          rintro e w' ⟨rfl, rfl⟩
          rw [HAL.out]
          go_wp2_with fail
          go_ret
          exact ⟨ret_bool (by simp), hbz⟩
    · skip
      have hk0 : ¬ ((cols.length : Nat) : Int) > 1 := by omega
      refine wp_region_noPanic ?_
      refine wp_region_held_drew (S := (fun W => W.cell? ⟨w1.heap.size, 0, none⟩ = some (.string t.1) ∧ W.cell? ⟨w1.heap.size, 1, none⟩ = some (.int .i64 t.2.1) ∧ W.cell? ⟨w1.heap.size, 2, none⟩ = some (.slice ub t.2.2.length uc))) (by kernel_rfl) ?hS51 (fun hHeld => ?_)
      case hS51 => exact ⟨X_0, X_1, X_2⟩
      refine wpAnyH_take (i := 0) (v := ?v0_52) rfl (by kernel_rfl) (by kernel_rfl) (by kernel_rfl) (fun _ _ _ h => h) (Or.inl ⟨by rfl, ?hy0_52⟩) (by assumption) ?rest0_52
      case hy0_52 => intro w hSw; (try dsimp only at hSw); go_simp; (try with_reducible rfl)
      try simp only [Act.put, List.getElem_toArray, List.getElem_cons_succ, List.getElem_cons_zero, List.setIfInBounds_toArray, List.set_cons_zero, List.set_cons_succ]
      refine wpAnyH_take (i := 1) (v := ?v1_53) rfl (by kernel_rfl) (by kernel_rfl) (by kernel_rfl) (fun _ _ _ h => h) (Or.inl ⟨by rfl, ?hy1_53⟩) (by assumption) ?rest1_53
      case hy1_53 => intro w hSw; (try dsimp only at hSw); go_simp; (try with_reducible rfl)
      try simp only [Act.put, List.getElem_toArray, List.getElem_cons_succ, List.getElem_cons_zero, List.setIfInBounds_toArray, List.set_cons_zero, List.set_cons_succ]
      refine wpAnyH_take (i := 2) (v := ?v2_54) rfl (by kernel_rfl) (by kernel_rfl) (by kernel_rfl) (fun _ _ _ h => h) (Or.inl ⟨by rfl, ?hy2_54⟩) (by assumption) ?rest2_54
      case hy2_54 => intro w hSw; (try dsimp only at hSw); go_simp; (try with_reducible rfl)
      try simp only [Act.put, List.getElem_toArray, List.getElem_cons_succ, List.getElem_cons_zero, List.setIfInBounds_toArray, List.set_cons_zero, List.set_cons_succ]
      refine wpAnyH_take (i := 3) (v := ?v3_55) rfl (by kernel_rfl) (by kernel_rfl) (by kernel_rfl) (fun _ _ _ h => h) (Or.inl ⟨by rfl, ?hy3_55⟩) (by assumption) ?rest3_55
      case hy3_55 => intro w hSw; (try dsimp only at hSw); go_simp; (try with_reducible rfl)
      try simp only [Act.put, List.getElem_toArray, List.getElem_cons_succ, List.getElem_cons_zero, List.setIfInBounds_toArray, List.set_cons_zero, List.set_cons_succ]
      refine wpAnyH_take (i := 4) (v := undef) rfl (by kernel_rfl) (by kernel_rfl) (by kernel_rfl) (fun _ _ _ h => h) (Or.inr ⟨by rfl, rfl⟩) (by assumption) ?_
      try simp only [Act.put, List.getElem_toArray, List.getElem_cons_succ, List.getElem_cons_zero, List.setIfInBounds_toArray, List.set_cons_zero, List.set_cons_succ]
      refine wpAnyH_take (i := 5) (v := undef) rfl (by kernel_rfl) (by kernel_rfl) (by kernel_rfl) (fun _ _ _ h => h) (Or.inr ⟨by rfl, rfl⟩) (by assumption) ?_
      try simp only [Act.put, List.getElem_toArray, List.getElem_cons_succ, List.getElem_cons_zero, List.setIfInBounds_toArray, List.set_cons_zero, List.set_cons_succ]
      refine wpAnyH_take (i := 6) (v := undef) rfl (by kernel_rfl) (by kernel_rfl) (by kernel_rfl) (fun _ _ _ h => h) (Or.inr ⟨by rfl, rfl⟩) (by assumption) ?_
      try simp only [Act.put, List.getElem_toArray, List.getElem_cons_succ, List.getElem_cons_zero, List.setIfInBounds_toArray, List.set_cons_zero, List.set_cons_succ]
      refine wpAnyH_take (i := 7) (v := ?v7_56) rfl (by kernel_rfl) (by kernel_rfl) (by kernel_rfl) (fun _ _ _ h => h) (Or.inl ⟨by rfl, ?hy7_56⟩) (by assumption) ?rest7_56
      case hy7_56 => intro w hSw; (try dsimp only at hSw); go_simp; (try with_reducible rfl)
      try simp only [Act.put, List.getElem_toArray, List.getElem_cons_succ, List.getElem_cons_zero, List.setIfInBounds_toArray, List.set_cons_zero, List.set_cons_succ]
      refine wpAnyH_take (i := 8) (v := ?v8_57) rfl (by kernel_rfl) (by kernel_rfl) (by kernel_rfl) (fun _ _ _ h => h) (Or.inl ⟨by rfl, ?hy8_57⟩) (by assumption) ?rest8_57
      case hy8_57 => intro w hSw; (try dsimp only at hSw); go_simp; (try with_reducible rfl)
      try simp only [Act.put, List.getElem_toArray, List.getElem_cons_succ, List.getElem_cons_zero, List.setIfInBounds_toArray, List.set_cons_zero, List.set_cons_succ]
      refine wpAnyH_take (i := 9) (v := undef) rfl (by kernel_rfl) (by kernel_rfl) (by kernel_rfl) (fun _ _ _ h => h) (Or.inr ⟨by rfl, rfl⟩) (by assumption) ?_
      try simp only [Act.put, List.getElem_toArray, List.getElem_cons_succ, List.getElem_cons_zero, List.setIfInBounds_toArray, List.set_cons_zero, List.set_cons_succ]
      refine wpAnyH_take (i := 10) (v := undef) rfl (by kernel_rfl) (by kernel_rfl) (by kernel_rfl) (fun _ _ _ h => h) (Or.inr ⟨by rfl, rfl⟩) (by assumption) ?_
      try simp only [Act.put, List.getElem_toArray, List.getElem_cons_succ, List.getElem_cons_zero, List.setIfInBounds_toArray, List.set_cons_zero, List.set_cons_succ]
      refine wpAnyH_take (i := 11) (v := undef) rfl (by kernel_rfl) (by kernel_rfl) (by kernel_rfl) (fun _ _ _ h => h) (Or.inr ⟨by rfl, rfl⟩) (by assumption) ?_
      try simp only [Act.put, List.getElem_toArray, List.getElem_cons_succ, List.getElem_cons_zero, List.setIfInBounds_toArray, List.set_cons_zero, List.set_cons_succ]
      refine wpAnyH_take (i := 12) (v := undef) rfl (by kernel_rfl) (by kernel_rfl) (by kernel_rfl) (fun _ _ _ h => h) (Or.inr ⟨by rfl, rfl⟩) (by assumption) ?_
      try simp only [Act.put, List.getElem_toArray, List.getElem_cons_succ, List.getElem_cons_zero, List.setIfInBounds_toArray, List.set_cons_zero, List.set_cons_succ]
      refine wpAnyH_take (i := 13) (v := undef) rfl (by kernel_rfl) (by kernel_rfl) (by kernel_rfl) (fun _ _ _ h => h) (Or.inr ⟨by rfl, rfl⟩) (by assumption) ?_
      try simp only [Act.put, List.getElem_toArray, List.getElem_cons_succ, List.getElem_cons_zero, List.setIfInBounds_toArray, List.set_cons_zero, List.set_cons_succ]
      refine wpAnyH_take (i := 14) (v := undef) rfl (by kernel_rfl) (by kernel_rfl) (by kernel_rfl) (fun _ _ _ h => h) (Or.inr ⟨by rfl, rfl⟩) (by assumption) ?_
      try simp only [Act.put, List.getElem_toArray, List.getElem_cons_succ, List.getElem_cons_zero, List.setIfInBounds_toArray, List.set_cons_zero, List.set_cons_succ]
      refine wpAnyH_take (i := 15) (v := undef) rfl (by kernel_rfl) (by kernel_rfl) (by kernel_rfl) (fun _ _ _ h => h) (Or.inr ⟨by rfl, rfl⟩) (by assumption) ?_
      try simp only [Act.put, List.getElem_toArray, List.getElem_cons_succ, List.getElem_cons_zero, List.setIfInBounds_toArray, List.set_cons_zero, List.set_cons_succ]
      refine wpAnyH_take (i := 16) (v := undef) rfl (by kernel_rfl) (by kernel_rfl) (by kernel_rfl) (fun _ _ _ h => h) (Or.inr ⟨by rfl, rfl⟩) (by assumption) ?_
      try simp only [Act.put, List.getElem_toArray, List.getElem_cons_succ, List.getElem_cons_zero, List.setIfInBounds_toArray, List.set_cons_zero, List.set_cons_succ]
      refine wpAnyH_take (i := 17) (v := ?v17_58) rfl (by kernel_rfl) (by kernel_rfl) (by kernel_rfl) (fun _ _ _ h => h) (Or.inl ⟨by rfl, ?hy17_58⟩) (by assumption) ?rest17_58
      case hy17_58 => intro w hSw; (try dsimp only at hSw); go_simp; (try with_reducible rfl)
      try simp only [Act.put, List.getElem_toArray, List.getElem_cons_succ, List.getElem_cons_zero, List.setIfInBounds_toArray, List.set_cons_zero, List.set_cons_succ]
      refine wpAnyH_done (by kernel_rfl) ?_ _
      refine NoPanic.normal ?_
      obtain ⟨wB2, hwB29⟩ : ∃ W, W = wB.drew := ⟨_, rfl⟩
      rw [← hwB29]
      have zB9_2 : Below wB.heap.size wB wB2 := by rw [hwB29]; exact (Below.refl _ _).drew
      clear hwB29
      have s59 := zB9_2.size
      have hb59 := on hb31 zB9_2
      replace X_0 := (zB9_2.cell (p := ⟨w1.heap.size, 0, none⟩) (by simp only []; omega)).trans X_0
      replace X_1 := (zB9_2.cell (p := ⟨w1.heap.size, 1, none⟩) (by simp only []; omega)).trans X_1
      replace X_2 := (zB9_2.cell (p := ⟨w1.heap.size, 2, none⟩) (by simp only []; omega)).trans X_2
      replace oL := oL.below zB9_2 (by omega)
      replace iL := iL.below zB9_2
      clear X_0 X_1 X_2
      go_wp2_with fail
      refine (drawDom_any _ ba bn bc (by omega) (hB.at hb59)).mono ?_
      rintro e w60 ⟨b1, n1, c1, xs, b2, n2, c2, ys, rfl, oA, oB, hab, z60⟩
      have s61 := z60.size
      have hb61 := on hb59 z60
      replace oL := oL.below z60 (by omega)
      replace iL := iL.below z60
      obtain ⟨hn1, hc1, hm1, iA⟩ := rI_open9 (oA.rd reads_I)
      obtain ⟨hn2, hc2, hm2, iB⟩ := rI_open9 (oB.rd reads_I)
      subst hn1
      subst hn2
      obtain ⟨p, hp⟩ : ∃ p, dominates xs ys = p := ⟨_, rfl⟩
      have HDM := Lib.hid (fun W (hW : Below w60.heap.size w60 W) => dominates_impl b1 b2 _ _ c1 c2 xs ys W (iA.below hW) (iB.below hW) ⟨hc1, hm1⟩ ⟨hc2, hm2⟩)
      have HDS := Lib.hid (fun W (hW : Below w60.heap.size w60 W) => dominates_spec b1 b2 _ _ c1 c2 xs ys W (iA.below hW) (iB.below hW))
      have HTA := Lib.hid (fun (k : Int) (hk : I64 k) W (hW : Below w60.heap.size w60 W) => topDeg_impl b1 _ c1 xs k W (iA.below hW) hc1 hm1 hk)
      have HTB := Lib.hid (fun (k : Int) (hk : I64 k) W (hW : Below w60.heap.size w60 W) => topDeg_impl b2 _ c2 ys k W (iB.below hW) hc2 hm2 hk)
      have HTT := Lib.hid (fun W (hW : Below w60.heap.size w60 W) => seqTotal_impl b1 _ c1 xs W (iA.below hW))
      rw [hp] at HDM HDS
      have HLE : Hid (p = true → ∀ k : Nat, k ≤ 8 → topDeg ys (k : Int) ≤ topDeg xs (k : Int)) := Lib.hid (fun h9 k hk => dom_top (hp.trans h9) hk)
      have HAL := Lib.hid (top_all xs)
      clear hp iA iB oA oB hc1 hm1 hc2 hm2 hB
      obtain ⟨wq, rfl⟩ : ∃ W, W = w60 := ⟨_, rfl⟩
      have hbq : Below wq.heap.size wq wq := Below.refl _ _
      go_wp2_with fail
      refine (HDM.out _ hbq).mono ?_
      rintro e w' ⟨rfl, rfl⟩
      go_wp2_with fail
      refine (HDS.out _ hbq).mono ?_
      rintro e wz ⟨rfl, zz⟩
      have zq : Below wq.heap.size wq wz := zz.below _
      have hbz := on hb61 zq
      have hpp : (p != p) = false := by simp
      clear HDM HDS
      go_wp2_with fail
      go_loopw [11] (fun i wr => ∃ j : Nat, j ≤ 9 ∧ i = .int .i64 (j : Int) ∧ wz = wr) (fun i _ => 9 - (intOf i).toNat)
      case atStart => exact ⟨0, Nat.zero_le _, rfl, rfl⟩
      case round =>
        obtain ⟨j, hj, rfl, rfl⟩ := hrel
        by_cases hlt : j ≤ 8
        · have hlj : (j : Int) ≤ 8 := by omega
          cases p with
          | false =>
            go_wp2_with fail
            go_roundw
            case rel => exact ⟨j + 1, by omega, by go_num, trivial⟩
            case measure => simp [intOf]; omega
          | true =>
            have hle := HLE.out rfl j hlt
            go_wp2_with fail
            refine (HTA.out (j : Int) ⟨by omega, by omega⟩ _ zq).mono ?_
            rintro e w' ⟨rfl, rfl⟩
            go_wp2_with fail
            refine (HTB.out (j : Int) ⟨by omega, by omega⟩ _ zq).mono ?_
            rintro e w' ⟨rfl, rfl⟩
            obtain ⟨q1, hq1⟩ : ∃ q, topDeg xs (j : Int) = q := ⟨_, rfl⟩
            obtain ⟨q2, hq2⟩ : ∃ q, topDeg ys (j : Int) = q := ⟨_, rfl⟩
            rw [hq1, hq2] at hle
            rw [hq1, hq2]
            have hnl : ¬ q1 < q2 := by omega
            go_wp2_with fail
            go_roundw
            case rel => exact ⟨j + 1, by omega, by go_num, trivial⟩
            case measure => simp [intOf]; omega
        · have hlj : ¬ (j : Int) ≤ 8 := by omega
          go_wp2_with fail
          refine (HTA.out 8 ⟨by omega, by omega⟩ _ zq).mono ?_
          rintro e w' ⟨rfl, rfl⟩
          go_wp2_with fail
          refine (HTT.out _ zq).mono ?_
          rintro e w' ⟨rfl, rfl⟩
          rw [HAL.out]
          go_wp2_with fail
          go_ret
          exact ⟨ret_bool (by simp), hbz⟩
  · skip
    have hl0 : ¬ ((L.length : Nat) : Int) > 0 := by omega
    refine wp_region_noPanic ?_
    refine wp_region_held_drew (S := (fun W => W.cell? ⟨w1.heap.size, 0, none⟩ = some (.string t.1) ∧ W.cell? ⟨w1.heap.size, 1, none⟩ = some (.int .i64 t.2.1) ∧ W.cell? ⟨w1.heap.size, 2, none⟩ = some (.slice ub t.2.2.length uc))) (by kernel_rfl) ?hS62 (fun hHeld => ?_)
    case hS62 => exact ⟨X_0, X_1, X_2⟩
    refine wpAnyH_take (i := 0) (v := ?v0_63) rfl (by kernel_rfl) (by kernel_rfl) (by kernel_rfl) (fun _ _ _ h => h) (Or.inl ⟨by rfl, ?hy0_63⟩) (by assumption) ?rest0_63
    case hy0_63 => intro w hSw; (try dsimp only at hSw); go_simp; (try with_reducible rfl)
    try simp only [Act.put, List.getElem_toArray, List.getElem_cons_succ, List.getElem_cons_zero, List.setIfInBounds_toArray, List.set_cons_zero, List.set_cons_succ]
    refine wpAnyH_take (i := 1) (v := ?v1_64) rfl (by kernel_rfl) (by kernel_rfl) (by kernel_rfl) (fun _ _ _ h => h) (Or.inl ⟨by rfl, ?hy1_64⟩) (by assumption) ?rest1_64
    case hy1_64 => intro w hSw; (try dsimp only at hSw); go_simp; (try with_reducible rfl)
    try simp only [Act.put, List.getElem_toArray, List.getElem_cons_succ, List.getElem_cons_zero, List.setIfInBounds_toArray, List.set_cons_zero, List.set_cons_succ]
    refine wpAnyH_take (i := 2) (v := ?v2_65) rfl (by kernel_rfl) (by kernel_rfl) (by kernel_rfl) (fun _ _ _ h => h) (Or.inl ⟨by rfl, ?hy2_65⟩) (by assumption) ?rest2_65
    case hy2_65 => intro w hSw; (try dsimp only at hSw); go_simp; (try with_reducible rfl)
    try simp only [Act.put, List.getElem_toArray, List.getElem_cons_succ, List.getElem_cons_zero, List.setIfInBounds_toArray, List.set_cons_zero, List.set_cons_succ]
    refine wpAnyH_take (i := 3) (v := ?v3_66) rfl (by kernel_rfl) (by kernel_rfl) (by kernel_rfl) (fun _ _ _ h => h) (Or.inl ⟨by rfl, ?hy3_66⟩) (by assumption) ?rest3_66
    case hy3_66 => intro w hSw; (try dsimp only at hSw); go_simp; (try with_reducible rfl)
    try simp only [Act.put, List.getElem_toArray, List.getElem_cons_succ, List.getElem_cons_zero, List.setIfInBounds_toArray, List.set_cons_zero, List.set_cons_succ]
    refine wpAnyH_take (i := 4) (v := undef) rfl (by kernel_rfl) (by kernel_rfl) (by kernel_rfl) (fun _ _ _ h => h) (Or.inr ⟨by rfl, rfl⟩) (by assumption) ?_
    try simp only [Act.put, List.getElem_toArray, List.getElem_cons_succ, List.getElem_cons_zero, List.setIfInBounds_toArray, List.set_cons_zero, List.set_cons_succ]
    refine wpAnyH_take (i := 5) (v := undef) rfl (by kernel_rfl) (by kernel_rfl) (by kernel_rfl) (fun _ _ _ h => h) (Or.inr ⟨by rfl, rfl⟩) (by assumption) ?_
    try simp only [Act.put, List.getElem_toArray, List.getElem_cons_succ, List.getElem_cons_zero, List.setIfInBounds_toArray, List.set_cons_zero, List.set_cons_succ]
    refine wpAnyH_take (i := 6) (v := undef) rfl (by kernel_rfl) (by kernel_rfl) (by kernel_rfl) (fun _ _ _ h => h) (Or.inr ⟨by rfl, rfl⟩) (by assumption) ?_
    try simp only [Act.put, List.getElem_toArray, List.getElem_cons_succ, List.getElem_cons_zero, List.setIfInBounds_toArray, List.set_cons_zero, List.set_cons_succ]
    refine wpAnyH_take (i := 7) (v := undef) rfl (by kernel_rfl) (by kernel_rfl) (by kernel_rfl) (fun _ _ _ h => h) (Or.inr ⟨by rfl, rfl⟩) (by assumption) ?_
    try simp only [Act.put, List.getElem_toArray, List.getElem_cons_succ, List.getElem_cons_zero, List.setIfInBounds_toArray, List.set_cons_zero, List.set_cons_succ]
    refine wpAnyH_take (i := 8) (v := undef) rfl (by kernel_rfl) (by kernel_rfl) (by kernel_rfl) (fun _ _ _ h => h) (Or.inr ⟨by rfl, rfl⟩) (by assumption) ?_
    try simp only [Act.put, List.getElem_toArray, List.getElem_cons_succ, List.getElem_cons_zero, List.setIfInBounds_toArray, List.set_cons_zero, List.set_cons_succ]
    refine wpAnyH_take (i := 9) (v := undef) rfl (by kernel_rfl) (by kernel_rfl) (by kernel_rfl) (fun _ _ _ h => h) (Or.inr ⟨by rfl, rfl⟩) (by assumption) ?_
    try simp only [Act.put, List.getElem_toArray, List.getElem_cons_succ, List.getElem_cons_zero, List.setIfInBounds_toArray, List.set_cons_zero, List.set_cons_succ]
    refine wpAnyH_take (i := 10) (v := undef) rfl (by kernel_rfl) (by kernel_rfl) (by kernel_rfl) (fun _ _ _ h => h) (Or.inr ⟨by rfl, rfl⟩) (by assumption) ?_
    try simp only [Act.put, List.getElem_toArray, List.getElem_cons_succ, List.getElem_cons_zero, List.setIfInBounds_toArray, List.set_cons_zero, List.set_cons_succ]
    refine wpAnyH_take (i := 11) (v := undef) rfl (by kernel_rfl) (by kernel_rfl) (by kernel_rfl) (fun _ _ _ h => h) (Or.inr ⟨by rfl, rfl⟩) (by assumption) ?_
    try simp only [Act.put, List.getElem_toArray, List.getElem_cons_succ, List.getElem_cons_zero, List.setIfInBounds_toArray, List.set_cons_zero, List.set_cons_succ]
    refine wpAnyH_take (i := 12) (v := undef) rfl (by kernel_rfl) (by kernel_rfl) (by kernel_rfl) (fun _ _ _ h => h) (Or.inr ⟨by rfl, rfl⟩) (by assumption) ?_
    try simp only [Act.put, List.getElem_toArray, List.getElem_cons_succ, List.getElem_cons_zero, List.setIfInBounds_toArray, List.set_cons_zero, List.set_cons_succ]
    refine wpAnyH_take (i := 13) (v := undef) rfl (by kernel_rfl) (by kernel_rfl) (by kernel_rfl) (fun _ _ _ h => h) (Or.inr ⟨by rfl, rfl⟩) (by assumption) ?_
    try simp only [Act.put, List.getElem_toArray, List.getElem_cons_succ, List.getElem_cons_zero, List.setIfInBounds_toArray, List.set_cons_zero, List.set_cons_succ]
    refine wpAnyH_take (i := 14) (v := undef) rfl (by kernel_rfl) (by kernel_rfl) (by kernel_rfl) (fun _ _ _ h => h) (Or.inr ⟨by rfl, rfl⟩) (by assumption) ?_
    try simp only [Act.put, List.getElem_toArray, List.getElem_cons_succ, List.getElem_cons_zero, List.setIfInBounds_toArray, List.set_cons_zero, List.set_cons_succ]
    refine wpAnyH_take (i := 15) (v := undef) rfl (by kernel_rfl) (by kernel_rfl) (by kernel_rfl) (fun _ _ _ h => h) (Or.inr ⟨by rfl, rfl⟩) (by assumption) ?_
    try simp only [Act.put, List.getElem_toArray, List.getElem_cons_succ, List.getElem_cons_zero, List.setIfInBounds_toArray, List.set_cons_zero, List.set_cons_succ]
    refine wpAnyH_take (i := 16) (v := undef) rfl (by kernel_rfl) (by kernel_rfl) (by kernel_rfl) (fun _ _ _ h => h) (Or.inr ⟨by rfl, rfl⟩) (by assumption) ?_
    try simp only [Act.put, List.getElem_toArray, List.getElem_cons_succ, List.getElem_cons_zero, List.setIfInBounds_toArray, List.set_cons_zero, List.set_cons_succ]
    refine wpAnyH_take (i := 17) (v := undef) rfl (by kernel_rfl) (by kernel_rfl) (by kernel_rfl) (fun _ _ _ h => h) (Or.inr ⟨by rfl, rfl⟩) (by assumption) ?_
    try simp only [Act.put, List.getElem_toArray, List.getElem_cons_succ, List.getElem_cons_zero, List.setIfInBounds_toArray, List.set_cons_zero, List.set_cons_succ]
    refine wpAnyH_take (i := 18) (v := undef) rfl (by kernel_rfl) (by kernel_rfl) (by kernel_rfl) (fun _ _ _ h => h) (Or.inr ⟨by rfl, rfl⟩) (by assumption) ?_
    try simp only [Act.put, List.getElem_toArray, List.getElem_cons_succ, List.getElem_cons_zero, List.setIfInBounds_toArray, List.set_cons_zero, List.set_cons_succ]
    refine wpAnyH_take (i := 19) (v := ?v19_67) rfl (by kernel_rfl) (by kernel_rfl) (by kernel_rfl) (fun _ _ _ h => h) (Or.inl ⟨by rfl, ?hy19_67⟩) (by assumption) ?rest19_67
    case hy19_67 => intro w hSw; (try dsimp only at hSw); go_simp; (try with_reducible rfl)
    try simp only [Act.put, List.getElem_toArray, List.getElem_cons_succ, List.getElem_cons_zero, List.setIfInBounds_toArray, List.set_cons_zero, List.set_cons_succ]
    refine wpAnyH_done (by kernel_rfl) ?_ _
    refine NoPanic.normal ?_
    obtain ⟨wB1, hwB19⟩ : ∃ W, W = wq.drew := ⟨_, rfl⟩
    rw [← hwB19]
    have zB9_1 : Below wq.heap.size wq wB1 := by rw [hwB19]; exact (Below.refl _ _).drew
    clear hwB19
    have s68 := zB9_1.size
    have hb68 := on hb11 zB9_1
    replace X_0 := (zB9_1.cell (p := ⟨w1.heap.size, 0, none⟩) (by simp only []; omega)).trans X_0
    replace X_1 := (zB9_1.cell (p := ⟨w1.heap.size, 1, none⟩) (by simp only []; omega)).trans X_1
    replace X_2 := (zB9_1.cell (p := ⟨w1.heap.size, 2, none⟩) (by simp only []; omega)).trans X_2
    replace oL := oL.below zB9_1 (by omega)
    replace iL := iL.below zB9_1
    have hwB : Below wq.heap.size wq wB1 := zB9_1
    go_wp2_with fail
    by_cases hk : 1 < cols.length
    · skip
      have hk0 : ((cols.length : Nat) : Int) > 1 := by omega
      refine wp_region_noPanic ?_
      refine wp_region_held_drew (S := (fun W => W.cell? ⟨w1.heap.size, 0, none⟩ = some (.string t.1) ∧ W.cell? ⟨w1.heap.size, 1, none⟩ = some (.int .i64 t.2.1) ∧ W.cell? ⟨w1.heap.size, 2, none⟩ = some (.slice ub t.2.2.length uc))) (by kernel_rfl) ?hS69 (fun hHeld => ?_)
      case hS69 => exact ⟨X_0, X_1, X_2⟩
      refine wpAnyH_take (i := 0) (v := ?v0_70) rfl (by kernel_rfl) (by kernel_rfl) (by kernel_rfl) (fun _ _ _ h => h) (Or.inl ⟨by rfl, ?hy0_70⟩) (by assumption) ?rest0_70
      case hy0_70 => intro w hSw; (try dsimp only at hSw); go_simp; (try with_reducible rfl)
      try simp only [Act.put, List.getElem_toArray, List.getElem_cons_succ, List.getElem_cons_zero, List.setIfInBounds_toArray, List.set_cons_zero, List.set_cons_succ]
      refine wpAnyH_take (i := 1) (v := ?v1_71) rfl (by kernel_rfl) (by kernel_rfl) (by kernel_rfl) (fun _ _ _ h => h) (Or.inl ⟨by rfl, ?hy1_71⟩) (by assumption) ?rest1_71
      case hy1_71 => intro w hSw; (try dsimp only at hSw); go_simp; (try with_reducible rfl)
      try simp only [Act.put, List.getElem_toArray, List.getElem_cons_succ, List.getElem_cons_zero, List.setIfInBounds_toArray, List.set_cons_zero, List.set_cons_succ]
      refine wpAnyH_take (i := 2) (v := ?v2_72) rfl (by kernel_rfl) (by kernel_rfl) (by kernel_rfl) (fun _ _ _ h => h) (Or.inl ⟨by rfl, ?hy2_72⟩) (by assumption) ?rest2_72
      case hy2_72 => intro w hSw; (try dsimp only at hSw); go_simp; (try with_reducible rfl)
      try simp only [Act.put, List.getElem_toArray, List.getElem_cons_succ, List.getElem_cons_zero, List.setIfInBounds_toArray, List.set_cons_zero, List.set_cons_succ]
      refine wpAnyH_take (i := 3) (v := ?v3_73) rfl (by kernel_rfl) (by kernel_rfl) (by kernel_rfl) (fun _ _ _ h => h) (Or.inl ⟨by rfl, ?hy3_73⟩) (by assumption) ?rest3_73
      case hy3_73 => intro w hSw; (try dsimp only at hSw); go_simp; (try with_reducible rfl)
      try simp only [Act.put, List.getElem_toArray, List.getElem_cons_succ, List.getElem_cons_zero, List.setIfInBounds_toArray, List.set_cons_zero, List.set_cons_succ]
      refine wpAnyH_take (i := 4) (v := ?v4_74) rfl (by kernel_rfl) (by kernel_rfl) (by kernel_rfl) (fun _ _ _ h => h) (Or.inl ⟨by rfl, ?hy4_74⟩) (by assumption) ?rest4_74
      case hy4_74 => intro w hSw; (try dsimp only at hSw); go_simp; (try with_reducible rfl)
      try simp only [Act.put, List.getElem_toArray, List.getElem_cons_succ, List.getElem_cons_zero, List.setIfInBounds_toArray, List.set_cons_zero, List.set_cons_succ]
      refine wpAnyH_take (i := 5) (v := ?v5_75) rfl (by kernel_rfl) (by kernel_rfl) (by kernel_rfl) (fun _ _ _ h => h) (Or.inl ⟨by rfl, ?hy5_75⟩) (by assumption) ?rest5_75
      case hy5_75 => intro w hSw; (try dsimp only at hSw); go_simp; (try with_reducible rfl)
      try simp only [Act.put, List.getElem_toArray, List.getElem_cons_succ, List.getElem_cons_zero, List.setIfInBounds_toArray, List.set_cons_zero, List.set_cons_succ]
      refine wpAnyH_take (i := 6) (v := ?v6_76) rfl (by kernel_rfl) (by kernel_rfl) (by kernel_rfl) (fun _ _ _ h => h) (Or.inl ⟨by rfl, ?hy6_76⟩) (by assumption) ?rest6_76
      case hy6_76 => intro w hSw; (try dsimp only at hSw); go_simp; (try with_reducible rfl)
      try simp only [Act.put, List.getElem_toArray, List.getElem_cons_succ, List.getElem_cons_zero, List.setIfInBounds_toArray, List.set_cons_zero, List.set_cons_succ]
      refine wpAnyH_take (i := 7) (v := ?v7_77) rfl (by kernel_rfl) (by kernel_rfl) (by kernel_rfl) (fun _ _ _ h => h) (Or.inl ⟨by rfl, ?hy7_77⟩) (by assumption) ?rest7_77
      case hy7_77 => intro w hSw; (try dsimp only at hSw); go_simp; (try with_reducible rfl)
      try simp only [Act.put, List.getElem_toArray, List.getElem_cons_succ, List.getElem_cons_zero, List.setIfInBounds_toArray, List.set_cons_zero, List.set_cons_succ]
      refine wpAnyH_take (i := 8) (v := ?v8_78) rfl (by kernel_rfl) (by kernel_rfl) (by kernel_rfl) (fun _ _ _ h => h) (Or.inl ⟨by rfl, ?hy8_78⟩) (by assumption) ?rest8_78
      case hy8_78 => intro w hSw; (try dsimp only at hSw); go_simp; (try with_reducible rfl)
      try simp only [Act.put, List.getElem_toArray, List.getElem_cons_succ, List.getElem_cons_zero, List.setIfInBounds_toArray, List.set_cons_zero, List.set_cons_succ]
      refine wpAnyH_take (i := 9) (v := undef) rfl (by kernel_rfl) (by kernel_rfl) (by kernel_rfl) (fun _ _ _ h => h) (Or.inr ⟨by rfl, rfl⟩) (by assumption) ?_
      try simp only [Act.put, List.getElem_toArray, List.getElem_cons_succ, List.getElem_cons_zero, List.setIfInBounds_toArray, List.set_cons_zero, List.set_cons_succ]
      refine wpAnyH_take (i := 10) (v := undef) rfl (by kernel_rfl) (by kernel_rfl) (by kernel_rfl) (fun _ _ _ h => h) (Or.inr ⟨by rfl, rfl⟩) (by assumption) ?_
      try simp only [Act.put, List.getElem_toArray, List.getElem_cons_succ, List.getElem_cons_zero, List.setIfInBounds_toArray, List.set_cons_zero, List.set_cons_succ]
      refine wpAnyH_take (i := 11) (v := undef) rfl (by kernel_rfl) (by kernel_rfl) (by kernel_rfl) (fun _ _ _ h => h) (Or.inr ⟨by rfl, rfl⟩) (by assumption) ?_
      try simp only [Act.put, List.getElem_toArray, List.getElem_cons_succ, List.getElem_cons_zero, List.setIfInBounds_toArray, List.set_cons_zero, List.set_cons_succ]
      refine wpAnyH_take (i := 12) (v := undef) rfl (by kernel_rfl) (by kernel_rfl) (by kernel_rfl) (fun _ _ _ h => h) (Or.inr ⟨by rfl, rfl⟩) (by assumption) ?_
      try simp only [Act.put, List.getElem_toArray, List.getElem_cons_succ, List.getElem_cons_zero, List.setIfInBounds_toArray, List.set_cons_zero, List.set_cons_succ]
      refine wpAnyH_take (i := 13) (v := undef) rfl (by kernel_rfl) (by kernel_rfl) (by kernel_rfl) (fun _ _ _ h => h) (Or.inr ⟨by rfl, rfl⟩) (by assumption) ?_
      try simp only [Act.put, List.getElem_toArray, List.getElem_cons_succ, List.getElem_cons_zero, List.setIfInBounds_toArray, List.set_cons_zero, List.set_cons_succ]
      refine wpAnyH_take (i := 14) (v := undef) rfl (by kernel_rfl) (by kernel_rfl) (by kernel_rfl) (fun _ _ _ h => h) (Or.inr ⟨by rfl, rfl⟩) (by assumption) ?_
      try simp only [Act.put, List.getElem_toArray, List.getElem_cons_succ, List.getElem_cons_zero, List.setIfInBounds_toArray, List.set_cons_zero, List.set_cons_succ]
      refine wpAnyH_take (i := 15) (v := undef) rfl (by kernel_rfl) (by kernel_rfl) (by kernel_rfl) (fun _ _ _ h => h) (Or.inr ⟨by rfl, rfl⟩) (by assumption) ?_
      try simp only [Act.put, List.getElem_toArray, List.getElem_cons_succ, List.getElem_cons_zero, List.setIfInBounds_toArray, List.set_cons_zero, List.set_cons_succ]
      refine wpAnyH_take (i := 16) (v := undef) rfl (by kernel_rfl) (by kernel_rfl) (by kernel_rfl) (fun _ _ _ h => h) (Or.inr ⟨by rfl, rfl⟩) (by assumption) ?_
      try simp only [Act.put, List.getElem_toArray, List.getElem_cons_succ, List.getElem_cons_zero, List.setIfInBounds_toArray, List.set_cons_zero, List.set_cons_succ]
      refine wpAnyH_take (i := 17) (v := ?v17_79) rfl (by kernel_rfl) (by kernel_rfl) (by kernel_rfl) (fun _ _ _ h => h) (Or.inl ⟨by rfl, ?hy17_79⟩) (by assumption) ?rest17_79
      case hy17_79 => intro w hSw; (try dsimp only at hSw); go_simp; (try with_reducible rfl)
      try simp only [Act.put, List.getElem_toArray, List.getElem_cons_succ, List.getElem_cons_zero, List.setIfInBounds_toArray, List.set_cons_zero, List.set_cons_succ]
      refine wpAnyH_done (by kernel_rfl) ?_ _
      refine NoPanic.normal ?_
      obtain ⟨wB4, hwB49⟩ : ∃ W, W = wB1.drew := ⟨_, rfl⟩
      rw [← hwB49]
      have zB9_4 : Below wB1.heap.size wB1 wB4 := by rw [hwB49]; exact (Below.refl _ _).drew
      clear hwB49
      have s80 := zB9_4.size
      have hb80 := on hb68 zB9_4
      replace X_0 := (zB9_4.cell (p := ⟨w1.heap.size, 0, none⟩) (by simp only []; omega)).trans X_0
      replace X_1 := (zB9_4.cell (p := ⟨w1.heap.size, 1, none⟩) (by simp only []; omega)).trans X_1
      replace X_2 := (zB9_4.cell (p := ⟨w1.heap.size, 2, none⟩) (by simp only []; omega)).trans X_2
      replace oL := oL.below zB9_4 (by omega)
      replace iL := iL.below zB9_4
      clear X_0 X_1 X_2
      go_wp2_with fail
      refine (drawDom_any _ ba bn bc (by omega) (hB.at hb80)).mono ?_
      rintro e w81 ⟨b1, n1, c1, xs, b2, n2, c2, ys, rfl, oA, oB, hab, z81⟩
      have s82 := z81.size
      have hb82 := on hb80 z81
      replace oL := oL.below z81 (by omega)
      replace iL := iL.below z81
      obtain ⟨hn1, hc1, hm1, iA⟩ := rI_open9 (oA.rd reads_I)
      obtain ⟨hn2, hc2, hm2, iB⟩ := rI_open9 (oB.rd reads_I)
      subst hn1
      subst hn2
      obtain ⟨p, hp⟩ : ∃ p, dominates xs ys = p := ⟨_, rfl⟩
      have HDM := Lib.hid (fun W (hW : Below w81.heap.size w81 W) => dominates_impl b1 b2 _ _ c1 c2 xs ys W (iA.below hW) (iB.below hW) ⟨hc1, hm1⟩ ⟨hc2, hm2⟩)
      have HDS := Lib.hid (fun W (hW : Below w81.heap.size w81 W) => dominates_spec b1 b2 _ _ c1 c2 xs ys W (iA.below hW) (iB.below hW))
      have HTA := Lib.hid (fun (k : Int) (hk : I64 k) W (hW : Below w81.heap.size w81 W) => topDeg_impl b1 _ c1 xs k W (iA.below hW) hc1 hm1 hk)
      have HTB := Lib.hid (fun (k : Int) (hk : I64 k) W (hW : Below w81.heap.size w81 W) => topDeg_impl b2 _ c2 ys k W (iB.below hW) hc2 hm2 hk)
      have HTT := Lib.hid (fun W (hW : Below w81.heap.size w81 W) => seqTotal_impl b1 _ c1 xs W (iA.below hW))
      rw [hp] at HDM HDS
      have HLE : Hid (p = true → ∀ k : Nat, k ≤ 8 → topDeg ys (k : Int) ≤ topDeg xs (k : Int)) := Lib.hid (fun h9 k hk => dom_top (hp.trans h9) hk)
      have HAL := Lib.hid (top_all xs)
      clear hp iA iB oA oB hc1 hm1 hc2 hm2 hB
      obtain ⟨wq, rfl⟩ : ∃ W, W = w81 := ⟨_, rfl⟩
      have hbq : Below wq.heap.size wq wq := Below.refl _ _
      go_wp2_with fail
      refine (HDM.out _ hbq).mono ?_
      rintro e w' ⟨rfl, rfl⟩
      go_wp2_with fail
      refine (HDS.out _ hbq).mono ?_
      rintro e wz ⟨rfl, zz⟩
      have zq : Below wq.heap.size wq wz := zz.below _
      have hbz := on hb82 zq
      have hpp : (p != p) = false := by simp
      clear HDM HDS
      go_wp2_with fail
      go_loopw [11] (fun i wr => ∃ j : Nat, j ≤ 9 ∧ i = .int .i64 (j : Int) ∧ wz = wr) (fun i _ => 9 - (intOf i).toNat)
      case atStart => exact ⟨0, Nat.zero_le _, rfl, rfl⟩
      case round =>
        obtain ⟨j, hj, rfl, rfl⟩ := hrel
        by_cases hlt : j ≤ 8
        · have hlj : (j : Int) ≤ 8 := by omega
          cases p with
          | false =>
            go_wp2_with fail
            go_roundw
            case rel => exact ⟨j + 1, by omega, by go_num, trivial⟩
            case measure => simp [intOf]; omega
          | true =>
            have hle := HLE.out rfl j hlt
            go_wp2_with fail
            refine (HTA.out (j : Int) ⟨by omega, by omega⟩ _ zq).mono ?_
            rintro e w' ⟨rfl, rfl⟩
            go_wp2_with fail
            refine (HTB.out (j : Int) ⟨by omega, by omega⟩ _ zq).mono ?_
            rintro e w' ⟨rfl, rfl⟩
            obtain ⟨q1, hq1⟩ : ∃ q, topDeg xs (j : Int) = q := ⟨_, rfl⟩
            obtain ⟨q2, hq2⟩ : ∃ q, topDeg ys (j : Int) = q := ⟨_, rfl⟩
            rw [hq1, hq2] at hle
            rw [hq1, hq2]
            have hnl : ¬ q1 < q2 := by omega
            go_wp2_with fail
            go_roundw
            case rel => exact ⟨j + 1, by omega, by go_num, trivial⟩
            case measure => simp [intOf]; omega
        · have hlj : ¬ (j : Int) ≤ 8 := by omega
          go_wp2_with fail
          refine (HTA.out 8 ⟨by omega, by omega⟩ _ zq).mono ?_
          rintro e w' ⟨rfl, rfl⟩
          go_wp2_with fail
          refine (HTT.out _ zq).mono ?_
          rintro e w' ⟨rfl, rfl⟩
          rw [HAL.out]
          go_wp2_with fail
          go_ret
          exact ⟨ret_bool (by simp), hbz⟩
    · skip
      have hk0 : ¬ ((cols.length : Nat) : Int) > 1 := by omega
      refine wp_region_noPanic ?_
      refine wp_region_held_drew (S := (fun W => W.cell? ⟨w1.heap.size, 0, none⟩ = some (.string t.1) ∧ W.cell? ⟨w1.heap.size, 1, none⟩ = some (.int .i64 t.2.1) ∧ W.cell? ⟨w1.heap.size, 2, none⟩ = some (.slice ub t.2.2.length uc))) (by kernel_rfl) ?hS83 (fun hHeld => ?_)
      case hS83 => exact ⟨X_0, X_1, X_2⟩
      refine wpAnyH_take (i := 0) (v := ?v0_84) rfl (by kernel_rfl) (by kernel_rfl) (by kernel_rfl) (fun _ _ _ h => h) (Or.inl ⟨by rfl, ?hy0_84⟩) (by assumption) ?rest0_84
      case hy0_84 => intro w hSw; (try dsimp only at hSw); go_simp; (try with_reducible rfl)
      try simp only [Act.put, List.getElem_toArray, List.getElem_cons_succ, List.getElem_cons_zero, List.setIfInBounds_toArray, List.set_cons_zero, List.set_cons_succ]
      refine wpAnyH_take (i := 1) (v := ?v1_85) rfl (by kernel_rfl) (by kernel_rfl) (by kernel_rfl) (fun _ _ _ h => h) (Or.inl ⟨by rfl, ?hy1_85⟩) (by assumption) ?rest1_85
      case hy1_85 => intro w hSw; (try dsimp only at hSw); go_simp; (try with_reducible rfl)
      try simp only [Act.put, List.getElem_toArray, List.getElem_cons_succ, List.getElem_cons_zero, List.setIfInBounds_toArray, List.set_cons_zero, List.set_cons_succ]
      refine wpAnyH_take (i := 2) (v := ?v2_86) rfl (by kernel_rfl) (by kernel_rfl) (by kernel_rfl) (fun _ _ _ h => h) (Or.inl ⟨by rfl, ?hy2_86⟩) (by assumption) ?rest2_86
      case hy2_86 => intro w hSw; (try dsimp only at hSw); go_simp; (try with_reducible rfl)
      try simp only [Act.put, List.getElem_toArray, List.getElem_cons_succ, List.getElem_cons_zero, List.setIfInBounds_toArray, List.set_cons_zero, List.set_cons_succ]
      refine wpAnyH_take (i := 3) (v := ?v3_87) rfl (by kernel_rfl) (by kernel_rfl) (by kernel_rfl) (fun _ _ _ h => h) (Or.inl ⟨by rfl, ?hy3_87⟩) (by assumption) ?rest3_87
      case hy3_87 => intro w hSw; (try dsimp only at hSw); go_simp; (try with_reducible rfl)
      try simp only [Act.put, List.getElem_toArray, List.getElem_cons_succ, List.getElem_cons_zero, List.setIfInBounds_toArray, List.set_cons_zero, List.set_cons_succ]
      refine wpAnyH_take (i := 4) (v := undef) rfl (by kernel_rfl) (by kernel_rfl) (by kernel_rfl) (fun _ _ _ h => h) (Or.inr ⟨by rfl, rfl⟩) (by assumption) ?_
      try simp only [Act.put, List.getElem_toArray, List.getElem_cons_succ, List.getElem_cons_zero, List.setIfInBounds_toArray, List.set_cons_zero, List.set_cons_succ]
      refine wpAnyH_take (i := 5) (v := undef) rfl (by kernel_rfl) (by kernel_rfl) (by kernel_rfl) (fun _ _ _ h => h) (Or.inr ⟨by rfl, rfl⟩) (by assumption) ?_
      try simp only [Act.put, List.getElem_toArray, List.getElem_cons_succ, List.getElem_cons_zero, List.setIfInBounds_toArray, List.set_cons_zero, List.set_cons_succ]
      refine wpAnyH_take (i := 6) (v := undef) rfl (by kernel_rfl) (by kernel_rfl) (by kernel_rfl) (fun _ _ _ h => h) (Or.inr ⟨by rfl, rfl⟩) (by assumption) ?_
      try simp only [Act.put, List.getElem_toArray, List.getElem_cons_succ, List.getElem_cons_zero, List.setIfInBounds_toArray, List.set_cons_zero, List.set_cons_succ]
      refine wpAnyH_take (i := 7) (v := ?v7_88) rfl (by kernel_rfl) (by kernel_rfl) (by kernel_rfl) (fun _ _ _ h => h) (Or.inl ⟨by rfl, ?hy7_88⟩) (by assumption) ?rest7_88
      case hy7_88 => intro w hSw; (try dsimp only at hSw); go_simp; (try with_reducible rfl)
      try simp only [Act.put, List.getElem_toArray, List.getElem_cons_succ, List.getElem_cons_zero, List.setIfInBounds_toArray, List.set_cons_zero, List.set_cons_succ]
      refine wpAnyH_take (i := 8) (v := ?v8_89) rfl (by kernel_rfl) (by kernel_rfl) (by kernel_rfl) (fun _ _ _ h => h) (Or.inl ⟨by rfl, ?hy8_89⟩) (by assumption) ?rest8_89
      case hy8_89 => intro w hSw; (try dsimp only at hSw); go_simp; (try with_reducible rfl)
      try simp only [Act.put, List.getElem_toArray, List.getElem_cons_succ, List.getElem_cons_zero, List.setIfInBounds_toArray, List.set_cons_zero, List.set_cons_succ]
      refine wpAnyH_take (i := 9) (v := undef) rfl (by kernel_rfl) (by kernel_rfl) (by kernel_rfl) (fun _ _ _ h => h) (Or.inr ⟨by rfl, rfl⟩) (by assumption) ?_
      try simp only [Act.put, List.getElem_toArray, List.getElem_cons_succ, List.getElem_cons_zero, List.setIfInBounds_toArray, List.set_cons_zero, List.set_cons_succ]
      refine wpAnyH_take (i := 10) (v := undef) rfl (by kernel_rfl) (by kernel_rfl) (by kernel_rfl) (fun _ _ _ h => h) (Or.inr ⟨by rfl, rfl⟩) (by assumption) ?_
      try simp only [Act.put, List.getElem_toArray, List.getElem_cons_succ, List.getElem_cons_zero, List.setIfInBounds_toArray, List.set_cons_zero, List.set_cons_succ]
      refine wpAnyH_take (i := 11) (v := undef) rfl (by kernel_rfl) (by kernel_rfl) (by kernel_rfl) (fun _ _ _ h => h) (Or.inr ⟨by rfl, rfl⟩) (by assumption) ?_
      try simp only [Act.put, List.getElem_toArray, List.getElem_cons_succ, List.getElem_cons_zero, List.setIfInBounds_toArray, List.set_cons_zero, List.set_cons_succ]
      refine wpAnyH_take (i := 12) (v := undef) rfl (by kernel_rfl) (by kernel_rfl) (by kernel_rfl) (fun _ _ _ h => h) (Or.inr ⟨by rfl, rfl⟩) (by assumption) ?_
      try simp only [Act.put, List.getElem_toArray, List.getElem_cons_succ, List.getElem_cons_zero, List.setIfInBounds_toArray, List.set_cons_zero, List.set_cons_succ]
      refine wpAnyH_take (i := 13) (v := undef) rfl (by kernel_rfl) (by kernel_rfl) (by kernel_rfl) (fun _ _ _ h => h) (Or.inr ⟨by rfl, rfl⟩) (by assumption) ?_
      try simp only [Act.put, List.getElem_toArray, List.getElem_cons_succ, List.getElem_cons_zero, List.setIfInBounds_toArray, List.set_cons_zero, List.set_cons_succ]
      refine wpAnyH_take (i := 14) (v := undef) rfl (by kernel_rfl) (by kernel_rfl) (by kernel_rfl) (fun _ _ _ h => h) (Or.inr ⟨by rfl, rfl⟩) (by assumption) ?_
      try simp only [Act.put, List.getElem_toArray, List.getElem_cons_succ, List.getElem_cons_zero, List.setIfInBounds_toArray, List.set_cons_zero, List.set_cons_succ]
      refine wpAnyH_take (i := 15) (v := undef) rfl (by kernel_rfl) (by kernel_rfl) (by kernel_rfl) (fun _ _ _ h => h) (Or.inr ⟨by rfl, rfl⟩) (by assumption) ?_
      try simp only [Act.put, List.getElem_toArray, List.getElem_cons_succ, List.getElem_cons_zero, List.setIfInBounds_toArray, List.set_cons_zero, List.set_cons_succ]
      refine wpAnyH_take (i := 16) (v := undef) rfl (by kernel_rfl) (by kernel_rfl) (by kernel_rfl) (fun _ _ _ h => h) (Or.inr ⟨by rfl, rfl⟩) (by assumption) ?_
      try simp only [Act.put, List.getElem_toArray, List.getElem_cons_succ, List.getElem_cons_zero, List.setIfInBounds_toArray, List.set_cons_zero, List.set_cons_succ]
      refine wpAnyH_take (i := 17) (v := ?v17_90) rfl (by kernel_rfl) (by kernel_rfl) (by kernel_rfl) (fun _ _ _ h => h) (Or.inl ⟨by rfl, ?hy17_90⟩) (by assumption) ?rest17_90
      case hy17_90 => intro w hSw; (try dsimp only at hSw); go_simp; (try with_reducible rfl)
      try simp only [Act.put, List.getElem_toArray, List.getElem_cons_succ, List.getElem_cons_zero, List.setIfInBounds_toArray, List.set_cons_zero, List.set_cons_succ]
      refine wpAnyH_done (by kernel_rfl) ?_ _
      refine NoPanic.normal ?_
      obtain ⟨wB3, hwB39⟩ : ∃ W, W = wB1.drew := ⟨_, rfl⟩
      rw [← hwB39]
      have zB9_3 : Below wB1.heap.size wB1 wB3 := by rw [hwB39]; exact (Below.refl _ _).drew
      clear hwB39
      have s91 := zB9_3.size
      have hb91 := on hb68 zB9_3
      replace X_0 := (zB9_3.cell (p := ⟨w1.heap.size, 0, none⟩) (by simp only []; omega)).trans X_0
      replace X_1 := (zB9_3.cell (p := ⟨w1.heap.size, 1, none⟩) (by simp only []; omega)).trans X_1
      replace X_2 := (zB9_3.cell (p := ⟨w1.heap.size, 2, none⟩) (by simp only []; omega)).trans X_2
      replace oL := oL.below zB9_3 (by omega)
      replace iL := iL.below zB9_3
      clear X_0 X_1 X_2
      go_wp2_with fail
      refine (drawDom_any _ ba bn bc (by omega) (hB.at hb91)).mono ?_
      rintro e w92 ⟨b1, n1, c1, xs, b2, n2, c2, ys, rfl, oA, oB, hab, z92⟩
      have s93 := z92.size
      have hb93 := on hb91 z92
      replace oL := oL.below z92 (by omega)
      replace iL := iL.below z92
      obtain ⟨hn1, hc1, hm1, iA⟩ := rI_open9 (oA.rd reads_I)
      obtain ⟨hn2, hc2, hm2, iB⟩ := rI_open9 (oB.rd reads_I)
      subst hn1
      subst hn2
      obtain ⟨p, hp⟩ : ∃ p, dominates xs ys = p := ⟨_, rfl⟩
      have HDM := Lib.hid (fun W (hW : Below w92.heap.size w92 W) => dominates_impl b1 b2 _ _ c1 c2 xs ys W (iA.below hW) (iB.below hW) ⟨hc1, hm1⟩ ⟨hc2, hm2⟩)
      have HDS := Lib.hid (fun W (hW : Below w92.heap.size w92 W) => dominates_spec b1 b2 _ _ c1 c2 xs ys W (iA.below hW) (iB.below hW))
      have HTA := Lib.hid (fun (k : Int) (hk : I64 k) W (hW : Below w92.heap.size w92 W) => topDeg_impl b1 _ c1 xs k W (iA.below hW) hc1 hm1 hk)
      have HTB := Lib.hid (fun (k : Int) (hk : I64 k) W (hW : Below w92.heap.size w92 W) => topDeg_impl b2 _ c2 ys k W (iB.below hW) hc2 hm2 hk)
      have HTT := Lib.hid (fun W (hW : Below w92.heap.size w92 W) => seqTotal_impl b1 _ c1 xs W (iA.below hW))
      rw [hp] at HDM HDS
      have HLE : Hid (p = true → ∀ k : Nat, k ≤ 8 → topDeg ys (k : Int) ≤ topDeg xs (k : Int)) := Lib.hid (fun h9 k hk => dom_top (hp.trans h9) hk)
      have HAL := Lib.hid (top_all xs)
      clear hp iA iB oA oB hc1 hm1 hc2 hm2 hB
      obtain ⟨wq, rfl⟩ : ∃ W, W = w92 := ⟨_, rfl⟩
      have hbq : Below wq.heap.size wq wq := Below.refl _ _
      go_wp2_with fail
      refine (HDM.out _ hbq).mono ?_
      rintro e w' ⟨rfl, rfl⟩
      go_wp2_with fail
      refine (HDS.out _ hbq).mono ?_
      rintro e wz ⟨rfl, zz⟩
      have zq : Below wq.heap.size wq wz := zz.below _
      have hbz := on hb93 zq
      have hpp : (p != p) = false := by simp
      clear HDM HDS
      go_wp2_with fail
      go_loopw [11] (fun i wr => ∃ j : Nat, j ≤ 9 ∧ i = .int .i64 (j : Int) ∧ wz = wr) (fun i _ => 9 - (intOf i).toNat)
      case atStart => exact ⟨0, Nat.zero_le _, rfl, rfl⟩
      case round =>
        obtain ⟨j, hj, rfl, rfl⟩ := hrel
        by_cases hlt : j ≤ 8
        · have hlj : (j : Int) ≤ 8 := by omega
          cases p with
          | false =>
            go_wp2_with fail
            go_roundw
            case rel => exact ⟨j + 1, by omega, by go_num, trivial⟩
            case measure => simp [intOf]; omega
          | true =>
            have hle := HLE.out rfl j hlt
            go_wp2_with fail
            refine (HTA.out (j : Int) ⟨by omega, by omega⟩ _ zq).mono ?_
            rintro e w' ⟨rfl, rfl⟩
            go_wp2_with fail
            refine (HTB.out (j : Int) ⟨by omega, by omega⟩ _ zq).mono ?_
            rintro e w' ⟨rfl, rfl⟩
            obtain ⟨q1, hq1⟩ : ∃ q, topDeg xs (j : Int) = q := ⟨_, rfl⟩
            obtain ⟨q2, hq2⟩ : ∃ q, topDeg ys (j : Int) = q := ⟨_, rfl⟩
            rw [hq1, hq2] at hle
            rw [hq1, hq2]
            have hnl : ¬ q1 < q2 := by omega
            go_wp2_with fail
            go_roundw
            case rel => exact ⟨j + 1, by omega, by go_num, trivial⟩
            case measure => simp [intOf]; omega
        · have hlj : ¬ (j : Int) ≤ 8 := by omega
          go_wp2_with fail
          refine (HTA.out 8 ⟨by omega, by omega⟩ _ zq).mono ?_
          rintro e w' ⟨rfl, rfl⟩
          go_wp2_with fail
          refine (HTT.out _ zq).mono ?_
          rintro e w' ⟨rfl, rfl⟩
          rw [HAL.out]
          go_wp2_with fail
          go_ret
          exact ⟨ret_bool (by simp), hbz⟩

end Go.Proofs.Ytehcjdbljdpmbaa
