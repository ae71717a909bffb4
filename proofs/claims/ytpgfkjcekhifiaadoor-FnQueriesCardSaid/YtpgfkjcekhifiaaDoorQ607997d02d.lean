/- Texts joined for one claim: LQueries. -/
import Derived.Test.YtpgfkjcekhifiaaDoorQeb7d42a6c8
import Derived.Test.YtpgfkjcekhifiaaDoorQ24cb3c2422
import Derived.Test.YtpgfkjcekhifiaaDoorQ4c3a3d8bdf
import Derived.Test.YtpgfkjcekhifiaaDoorQade03a00d9
import Derived.Test.YtpgfkjcekhifiaaDoorQ9a843b066a
import Derived.Test.YtpgfkjcekhifiaaDoorQc1742dcef0
import Derived.Test.YtpgfkjcekhifiaaDoorQ1236d00423
import Derived.Test.YtpgfkjcekhifiaaDoorQa6f767527b
import Derived.Deep.RegionHeld3

/- The walk of the law FnQueries. -/
namespace Go.Proofs.YtpgfkjcekhifiaaDoor
open Go.RowKit
set_option linter.unusedVariables false
set_option linter.unusedSimpArgs false
set_option synthInstance.maxSize 2000
set_option synthInstance.maxHeartbeats 400000

theorem fmtQ_len (q : DQ) : (bs (fmtQ q)).size ≤ 1048576 := by
  rw [bs_size]
  unfold fmtQ
  split
  · rename_i h
    obtain ⟨n, hq⟩ := QOk.of h
    have h1 := spaced_len (q.2.map wordA)
    have h2 := lens_atoms (word_len hq)
    have h3 := hq.len
    rw [List.length_map] at h1
    omega
  · simp
theorem rI_openQ {w : World} {b : Option Addr} {n c : Nat} {xs : List Int} (h : rI.rep w [.slice b n c] xs) : n = xs.length ∧ Ints w b n xs := by
  obtain ⟨a, cap, e, h1, h2, h3⟩ := rI_open h
  injection e with e1 e2 e3
  subst e1 e2 e3
  exact ⟨rfl, h3⟩

set_option maxRecDepth 100000 in
set_option maxHeartbeats 16000000 in
theorem walk_FnQueries (v0 : Value) (w : World) (h0 : kB_in w v0) (hm : ∃ m, w.cell? ⟨0, 0, none⟩ = some (.int .i64 m)) :
    Calls Tryd.prog 4 #[v0] w fun e w' => e = .returned (.bool true) ∧ Below w.heap.size w w' := by
  obtain ⟨ba, bn, bc, rfl, hB⟩ := h0
  have HM := Lib.hid (fun W (hW : Below w.heap.size w W) => someCell hm hW)
  have HBY := Lib.hid hB
  clear hm
  have hb0 : Below w.heap.size w w := Below.refl _ _
  go_enter Tryd.func4, Tryd.ntmps4
  go_wp2_with fail
  refine (big_any _ _ _ _).mono ?_
  rintro e w' ⟨rfl, rfl⟩
  by_cases hbig : 1048576 < bn
  · have e9 : decide (1048576 < bn) = true := by simpa using hbig
    rw [e9]
    go_wp2_with fail
    go_ret
    exact ⟨rfl, hb0⟩
  have e9 : decide (1048576 < bn) = false := by simpa using hbig
  rw [e9]
  clear e9
  have hbn : bn ≤ 2000000 := by omega
  clear hbig
  go_wp2_with fail
  refine (drawShared_any _ ba bn bc hbn hB).mono ?_
  rintro e w1 ⟨c0, qb, qn, qc, x, k, l, rfl, oq, hkl, z1⟩
  have s2 := z1.size
  have hb2 := on hb0 z1
  clear hB
  obtain ⟨hk64, hl64⟩ := hkl
  obtain ⟨w3, hw3⟩ : ∃ W, W = w1.alloc (.cells #[.int .i64 c0, .slice qb qn qc] 24) := ⟨_, rfl⟩
  have z3 : Below w1.heap.size w1 w3 := by rw [hw3]; exact (Below.refl _ _).alloc (Nat.le_refl _) _
  have s3 : w3.heap.size = w1.heap.size + 1 := by rw [hw3]; simp
  have hb3 := on hb2 z3
  replace oq := oq.below z3 (by omega)
  have X_0 : w3.cell? ⟨w1.heap.size, 0, none⟩ = some (.int .i64 c0) := by rw [hw3]; exact box_cell (Below.refl _ _) rfl
  have X_1 : w3.cell? ⟨w1.heap.size, 1, none⟩ = some (.slice qb qn qc) := by rw [hw3]; exact box_cell (Below.refl _ _) rfl
  have raw3_X_0 := X_0
  have raw3_X_1 := X_1
  rw [hw3] at raw3_X_0 raw3_X_1
  go_wp2_with fail
  rw [← hw3]
  clear hw3
  clear raw3_X_0 raw3_X_1
  obtain ⟨wq, rfl⟩ : ∃ W, W = w3 := ⟨_, rfl⟩
  have HQ := Lib.hid (fun W (hW : Below wq.heap.size wq W) => rQ.mono (oq.rd reads_Q) hW)
  clear oq
  have hbq : Below wq.heap.size wq wq := Below.refl _ _
  refine (maskVars_impl _ x k _ (HQ.out _ hbq)).mono ?_
  rintro e wx ⟨ux, rfl, ox, zx⟩
  obtain ⟨xb, xn, xc, rfl⟩ := oI_form1 ox
  obtain ⟨hxn, ix⟩ := rI_openQ (ox.rd reads_I)
  subst hxn
  clear ox
  have s4 := zx.size
  have hb4 := on hb3 zx
  replace X_0 := (zx.cell (p := ⟨w1.heap.size, 0, none⟩) (by simp only []; omega)).trans X_0
  replace X_1 := (zx.cell (p := ⟨w1.heap.size, 1, none⟩) (by simp only []; omega)).trans X_1
  have hqx := zx
  go_wp2_with fail
  refine (maskVars_impl _ x l _ (HQ.out _ hqx)).mono ?_
  rintro e wy ⟨uy, rfl, oy, zy⟩
  obtain ⟨yb, yn, yc, rfl⟩ := oI_form1 oy
  obtain ⟨hyn, iy⟩ := rI_openQ (oy.rd reads_I)
  subst hyn
  clear oy
  have s5 := zy.size
  have hb5 := on hb4 zy
  replace X_0 := (zy.cell (p := ⟨w1.heap.size, 0, none⟩) (by simp only []; omega)).trans X_0
  replace X_1 := (zy.cell (p := ⟨w1.heap.size, 1, none⟩) (by simp only []; omega)).trans X_1
  replace ix := ix.below zy
  have hqy := on hqx zy
  go_wp2_with fail
  refine (shared_impl _ x k l _ (HQ.out _ hqy)).mono ?_
  rintro e wv ⟨uv, rfl, ov, zv⟩
  obtain ⟨vb, vn, vc, rfl⟩ := oI_form1 ov
  obtain ⟨hvn, iv⟩ := rI_openQ (ov.rd reads_I)
  subst hvn
  clear ov
  have s6 := zv.size
  have hb6 := on hb5 zv
  replace X_0 := (zv.cell (p := ⟨w1.heap.size, 0, none⟩) (by simp only []; omega)).trans X_0
  replace X_1 := (zv.cell (p := ⟨w1.heap.size, 1, none⟩) (by simp only []; omega)).trans X_1
  replace ix := ix.below zv
  replace iy := iy.below zv
  have hqv := on hqy zv
  go_wp2_with fail
  refine (maskVars_spec _ x k _ (HQ.out _ hqv)).mono ?_
  rintro e wa ⟨ua, rfl, oa, za⟩
  obtain ⟨sb, sn, sc, rfl⟩ := oI_form1 oa
  obtain ⟨hsn, is⟩ := rI_openQ (oa.rd reads_I)
  subst hsn
  clear oa
  have s7 := za.size
  have hb7 := on hb6 za
  replace X_0 := (za.cell (p := ⟨w1.heap.size, 0, none⟩) (by simp only []; omega)).trans X_0
  replace X_1 := (za.cell (p := ⟨w1.heap.size, 1, none⟩) (by simp only []; omega)).trans X_1
  replace ix := ix.below za
  replace iy := iy.below za
  replace iv := iv.below za
  have hqa := on hqv za
  go_wp2_with fail
  refine (sameInts_eq _ _ _ _ _ (maskVars x k) _ ix is).mono ?_
  rintro e wb ⟨rfl, zb0⟩
  have zb : Below wa.heap.size wa wb := zb0.below _
  clear is zb0
  have s8 := zb.size
  have hb8 := on hb7 zb
  replace X_0 := (zb.cell (p := ⟨w1.heap.size, 0, none⟩) (by simp only []; omega)).trans X_0
  replace X_1 := (zb.cell (p := ⟨w1.heap.size, 1, none⟩) (by simp only []; omega)).trans X_1
  replace ix := ix.below zb
  replace iy := iy.below zb
  replace iv := iv.below zb
  have hqb := on hqa zb
  go_wp2_with fail
  refine (shared_spec _ x k l _ (HQ.out _ hqb)).mono ?_
  rintro e wc ⟨uc, rfl, oc, zc⟩
  obtain ⟨tb, tn, tc, rfl⟩ := oI_form1 oc
  obtain ⟨htn, it⟩ := rI_openQ (oc.rd reads_I)
  subst htn
  clear oc
  have s9 := zc.size
  have hb9 := on hb8 zc
  replace X_0 := (zc.cell (p := ⟨w1.heap.size, 0, none⟩) (by simp only []; omega)).trans X_0
  replace X_1 := (zc.cell (p := ⟨w1.heap.size, 1, none⟩) (by simp only []; omega)).trans X_1
  replace ix := ix.below zc
  replace iy := iy.below zc
  replace iv := iv.below zc
  have hqc := on hqb zc
  go_wp2_with fail
  refine (sameInts_eq _ _ _ _ _ (sharedVars x k l) _ iv it).mono ?_
  rintro e wd ⟨rfl, zd0⟩
  have zd : Below wc.heap.size wc wd := zd0.below _
  clear it zd0
  have s10 := zd.size
  have hb10 := on hb9 zd
  replace X_0 := (zd.cell (p := ⟨w1.heap.size, 0, none⟩) (by simp only []; omega)).trans X_0
  replace X_1 := (zd.cell (p := ⟨w1.heap.size, 1, none⟩) (by simp only []; omega)).trans X_1
  replace ix := ix.below zd
  replace iy := iy.below zd
  replace iv := iv.below zd
  have hqd := on hqc zd
  have HVM := Lib.hid (fun (v : Int) (hv : v ∈ sharedVars x k l) => shared_mem hv)
  obtain ⟨VL, hVL⟩ : ∃ q, sharedVars x k l = q := ⟨_, rfl⟩
  obtain ⟨XL, hXL⟩ : ∃ q, maskVars x k = q := ⟨_, rfl⟩
  obtain ⟨YL, hYL⟩ : ∃ q, maskVars x l = q := ⟨_, rfl⟩
  rw [hVL, hXL, hYL] at HVM
  rw [hVL] at iv
  rw [hXL] at ix
  rw [hYL] at iy
  simp only [hVL, hXL, hYL]
  clear hVL hXL hYL
  go_wp2_with fail
  obtain ⟨wl, rfl⟩ : ∃ W, W = wd := ⟨_, rfl⟩
  go_loopw [9] (fun i wr => ∃ j : Nat, j ≤ VL.length ∧ i = .int .i64 (j : Int) ∧ Drew wl wr) (fun i _ => VL.length - (intOf i).toNat)
  case atStart => exact ⟨0, Nat.zero_le _, rfl, Drew.refl _⟩
  case round =>
    obtain ⟨j, hj, rfl, hdr0⟩ := hrel
    obtain ⟨wo, rfl⟩ : ∃ W, W = wr := ⟨_, rfl⟩
    have hVs := iv.small
    have zlo : Below wl.heap.size wl wo := hdr0.below _
    have slo := zlo.size
    by_cases hlt : j < VL.length
    · obtain ⟨b1, o1, v, rfl, c1, hv0, hv1, hv2⟩ := iv.get hlt
      have hvm : v ∈ VL := by have := has_yes (by omega) hv0.out; simpa [has] using this
      obtain ⟨hX, hY, hr⟩ := HVM.out v hvm
      obtain ⟨bz, hbz⟩ := chV_ne hr
      have c2 := (zlo.cell (p := ⟨b1, o1 + j, none⟩) (cell_lt c1)).trans c1
      have HH1 := Lib.hid (lawHas_any _ _ xc XL v _ (ix.below zlo))
      have HH2 := Lib.hid (lawHas_any _ _ yc YL v _ (iy.below zlo))
      have HVN := Lib.hid (varName_impl v wo)
      have hne : ([bz] == ([] : List UInt8)) = false := rfl
      have hji : (j : Int) < (VL.length : Int) := by omega
      clear hvm hv0 c1 zlo
      go_wp2_with fail
      refine HH1.out.mono ?_
      rintro e w' ⟨rfl, rfl⟩
      rw [hX]
      go_wp2_with fail
      refine HH2.out.mono ?_
      rintro e w' ⟨rfl, rfl⟩
      rw [hY]
      go_wp2_with fail
      refine HVN.out.mono ?_
      rintro e w' ⟨rfl, rfl⟩
      rw [hbz]
      go_wp2_with fail
      go_roundw
      case rel => exact ⟨j + 1, by omega, by go_num, hdr0⟩
      case measure => simp [intOf]; omega
    · have hji : ¬ ((j : Int) < (VL.length : Int)) := by omega
      replace X_0 := (zlo.cell (p := ⟨w1.heap.size, 0, none⟩) (by simp only []; omega)).trans X_0
      replace X_1 := (zlo.cell (p := ⟨w1.heap.size, 1, none⟩) (by simp only []; omega)).trans X_1
      have hbo : Below w.heap.size w wo := on hb10 zlo
      have hqo := on hqd zlo
      clear ix iy iv
      clear HVM hdr0
      go_wp2_with fail
      refine (fmtQ_impl _ x _ (HQ.out _ hqo)).mono ?_
      rintro e wf ⟨rfl, zf⟩
      have s11 := zf.size
      have hb11 := on hbo zf
      replace X_0 := (zf.cell (p := ⟨w1.heap.size, 0, none⟩) (by simp only []; omega)).trans X_0
      replace X_1 := (zf.cell (p := ⟨w1.heap.size, 1, none⟩) (by simp only []; omega)).trans X_1
      have hqf := on hqo zf
      have hsz := fmtQ_len x
      go_wp2_with fail
      refine (parQ_impl (fmtQ x) _ hsz (HM.out _ hb11)).mono ?_
      rintro e wp ⟨zc, zb, zn, zcc, rfl, op, zp⟩
      have s12 := zp.size
      have hb12 := on hb11 zp
      replace X_0 := (zp.cell (p := ⟨w1.heap.size, 0, none⟩) (by simp only []; omega)).trans X_0
      replace X_1 := (zp.cell (p := ⟨w1.heap.size, 1, none⟩) (by simp only []; omega)).trans X_1
      have hqp := on hqf zp
      cases hval : validQ x with
      | true =>
        have hpar := par_fmtQ hval
        rw [hpar] at op
        rw [hpar]
        simp only [Option.getD_some, Option.isSome_some] at op ⊢
        clear hpar hsz
        obtain ⟨w13, hw13⟩ : ∃ W, W = wp.alloc (.cells #[.int .i64 zc, .slice zb zn zcc] 24) := ⟨_, rfl⟩
        have z13 : Below wp.heap.size wp w13 := by rw [hw13]; exact (Below.refl _ _).alloc (Nat.le_refl _) _
        have s13 : w13.heap.size = wp.heap.size + 1 := by rw [hw13]; simp
        have hb13 := on hb12 z13
        have old13_X_0 := X_0
        have old13_X_1 := X_1
        replace X_0 := (z13.cell (p := ⟨w1.heap.size, 0, none⟩) (by simp only []; omega)).trans X_0
        replace X_1 := (z13.cell (p := ⟨w1.heap.size, 1, none⟩) (by simp only []; omega)).trans X_1
        replace op := op.below z13 (by omega)
        have Z_0 : w13.cell? ⟨wp.heap.size, 0, none⟩ = some (.int .i64 zc) := by rw [hw13]; exact box_cell (Below.refl _ _) rfl
        have Z_1 : w13.cell? ⟨wp.heap.size, 1, none⟩ = some (.slice zb zn zcc) := by rw [hw13]; exact box_cell (Below.refl _ _) rfl
        have raw13_X_0 := X_0
        have raw13_X_1 := X_1
        have raw13_Z_0 := Z_0
        have raw13_Z_1 := Z_1
        rw [hw13] at raw13_X_0 raw13_X_1 raw13_Z_0 raw13_Z_1
        go_wp2_with fail
        rw [← hw13]
        clear hw13
        clear old13_X_0 old13_X_1 raw13_X_0 raw13_X_1 raw13_Z_0 raw13_Z_1
        have hqz := on hqp z13
        have hneq : (true != true) = false := rfl
        have hdr : Below w13.heap.size w13 w13.drew := (Below.refl _ _).drew
        refine wp_region_noPanic ?_
        refine wp_region_held_drew (S := (fun W => W.cell? ⟨w1.heap.size, 0, none⟩ = some (.int .i64 c0) ∧ W.cell? ⟨w1.heap.size, 1, none⟩ = some (.slice qb qn qc) ∧ W.cell? ⟨wp.heap.size, 0, none⟩ = some (.int .i64 zc) ∧ W.cell? ⟨wp.heap.size, 1, none⟩ = some (.slice zb zn zcc))) (by kernel_rfl) ?hS14 (fun hHeld => ?_)
        case hS14 => exact ⟨X_0, X_1, Z_0, Z_1⟩
        refine wpAnyH_take (i := 0) (v := ?v0_15) rfl (by kernel_rfl) (by kernel_rfl) (by kernel_rfl) (fun _ _ _ h => h) (Or.inl ⟨by rfl, ?hy0_15⟩) (by assumption) ?rest0_15
        case hy0_15 => intro w hSw; (try dsimp only at hSw); go_simp; (try with_reducible rfl)
        try simp only [Act.put, List.getElem_toArray, List.getElem_cons_succ, List.getElem_cons_zero, List.setIfInBounds_toArray, List.set_cons_zero, List.set_cons_succ]
        refine wpAnyH_take (i := 1) (v := ?v1_16) rfl (by kernel_rfl) (by kernel_rfl) (by kernel_rfl) (fun _ _ _ h => h) (Or.inl ⟨by rfl, ?hy1_16⟩) (by assumption) ?rest1_16
        case hy1_16 => intro w hSw; (try dsimp only at hSw); go_simp; (try with_reducible rfl)
        try simp only [Act.put, List.getElem_toArray, List.getElem_cons_succ, List.getElem_cons_zero, List.setIfInBounds_toArray, List.set_cons_zero, List.set_cons_succ]
        refine wpAnyH_ready (rs := [2]) (by kernel_rfl) (by simp) ?_
        refine AllReadyH.cons rfl (fun K9 hK9 => ?_) AllReadyH.nil
        go_simp
        refine (validQ_spec _ x _ (HQ.out _ (on hqz hdr))).mono ?_
        rintro e wA ⟨rfl, yy⟩
        rw [hval]
        have ywA : Below w13.heap.size w13 wA := on hdr yy
        have swA := ywA.size
        clear yy
        refine hK9.out _ _ ⟨(ywA.cell (p := ⟨w1.heap.size, 0, none⟩) (by simp only []; omega)).trans X_0, (ywA.cell (p := ⟨w1.heap.size, 1, none⟩) (by simp only []; omega)).trans X_1, (ywA.cell (p := ⟨wp.heap.size, 0, none⟩) (by simp only []; omega)).trans Z_0, (ywA.cell (p := ⟨wp.heap.size, 1, none⟩) (by simp only []; omega)).trans Z_1⟩ (fun hHeld => ?_)
        clear hK9 K9
        try simp only [Act.put, List.getElem_toArray, List.getElem_cons_succ, List.getElem_cons_zero, List.setIfInBounds_toArray, List.set_cons_zero, List.set_cons_succ]
        refine wpAnyH_take (i := 3) (v := ?v3_17) rfl (by kernel_rfl) (by kernel_rfl) (by kernel_rfl) (fun _ _ _ h => h) (Or.inl ⟨by rfl, ?hy3_17⟩) (by assumption) ?rest3_17
        case hy3_17 => intro w hSw; (try dsimp only at hSw); go_simp; (try with_reducible rfl)
        try simp only [Act.put, List.getElem_toArray, List.getElem_cons_succ, List.getElem_cons_zero, List.setIfInBounds_toArray, List.set_cons_zero, List.set_cons_succ]
        refine wpAnyH_take (i := 4) (v := ?v4_18) rfl (by kernel_rfl) (by kernel_rfl) (by kernel_rfl) (fun _ _ _ h => h) (Or.inl ⟨by rfl, ?hy4_18⟩) (by assumption) ?rest4_18
        case hy4_18 => intro w hSw; (try dsimp only at hSw); go_simp; (try with_reducible rfl)
        try simp only [Act.put, List.getElem_toArray, List.getElem_cons_succ, List.getElem_cons_zero, List.setIfInBounds_toArray, List.set_cons_zero, List.set_cons_succ]
        refine wpAnyH_take (i := 5) (v := ?v5_19) rfl (by kernel_rfl) (by kernel_rfl) (by kernel_rfl) (fun _ _ _ h => h) (Or.inl ⟨by rfl, ?hy5_19⟩) (by assumption) ?rest5_19
        case hy5_19 => intro w hSw; (try dsimp only at hSw); go_simp; (try with_reducible rfl)
        try simp only [Act.put, List.getElem_toArray, List.getElem_cons_succ, List.getElem_cons_zero, List.setIfInBounds_toArray, List.set_cons_zero, List.set_cons_succ]
        refine wpAnyH_take (i := 6) (v := ?v6_20) rfl (by kernel_rfl) (by kernel_rfl) (by kernel_rfl) (fun _ _ _ h => h) (Or.inl ⟨by rfl, ?hy6_20⟩) (by assumption) ?rest6_20
        case hy6_20 => intro w hSw; (try dsimp only at hSw); go_simp; (try with_reducible rfl)
        try simp only [Act.put, List.getElem_toArray, List.getElem_cons_succ, List.getElem_cons_zero, List.setIfInBounds_toArray, List.set_cons_zero, List.set_cons_succ]
        refine wpAnyH_take (i := 7) (v := ?v7_21) rfl (by kernel_rfl) (by kernel_rfl) (by kernel_rfl) (fun _ _ _ h => h) (Or.inl ⟨by rfl, ?hy7_21⟩) (by assumption) ?rest7_21
        case hy7_21 => intro w hSw; (try dsimp only at hSw); go_simp; (try with_reducible rfl)
        try simp only [Act.put, List.getElem_toArray, List.getElem_cons_succ, List.getElem_cons_zero, List.setIfInBounds_toArray, List.set_cons_zero, List.set_cons_succ]
        refine wpAnyH_take (i := 8) (v := ?v8_22) rfl (by kernel_rfl) (by kernel_rfl) (by kernel_rfl) (fun _ _ _ h => h) (Or.inl ⟨by rfl, ?hy8_22⟩) (by assumption) ?rest8_22
        case hy8_22 => intro w hSw; (try dsimp only at hSw); go_simp; (try with_reducible rfl)
        try simp only [Act.put, List.getElem_toArray, List.getElem_cons_succ, List.getElem_cons_zero, List.setIfInBounds_toArray, List.set_cons_zero, List.set_cons_succ]
        refine wpAnyH_ready (rs := [9]) (by kernel_rfl) (by simp) ?_
        refine AllReadyH.cons rfl (fun K9 hK9 => ?_) AllReadyH.nil
        go_simp
        refine (equalQ_impl _ _ x x _ ((op.below ywA (by omega)).rd reads_Q) (HQ.out _ (on hqz ywA))).mono ?_
        rintro e wB ⟨rfl, yy⟩
        rw [show decide (x = x) = true by simp]
        have ywB : Below w13.heap.size w13 wB := on ywA yy
        have swB := ywB.size
        clear yy
        refine hK9.out _ _ ⟨(ywB.cell (p := ⟨w1.heap.size, 0, none⟩) (by simp only []; omega)).trans X_0, (ywB.cell (p := ⟨w1.heap.size, 1, none⟩) (by simp only []; omega)).trans X_1, (ywB.cell (p := ⟨wp.heap.size, 0, none⟩) (by simp only []; omega)).trans Z_0, (ywB.cell (p := ⟨wp.heap.size, 1, none⟩) (by simp only []; omega)).trans Z_1⟩ (fun hHeld => ?_)
        clear hK9 K9
        try simp only [Act.put, List.getElem_toArray, List.getElem_cons_succ, List.getElem_cons_zero, List.setIfInBounds_toArray, List.set_cons_zero, List.set_cons_succ]
        refine wpAnyH_take (i := 10) (v := ?v10_23) rfl (by kernel_rfl) (by kernel_rfl) (by kernel_rfl) (fun _ _ _ h => h) (Or.inl ⟨by rfl, ?hy10_23⟩) (by assumption) ?rest10_23
        case hy10_23 => intro w hSw; (try dsimp only at hSw); go_simp; (try with_reducible rfl)
        try simp only [Act.put, List.getElem_toArray, List.getElem_cons_succ, List.getElem_cons_zero, List.setIfInBounds_toArray, List.set_cons_zero, List.set_cons_succ]
        refine wpAnyH_take (i := 11) (v := ?v11_24) rfl (by kernel_rfl) (by kernel_rfl) (by kernel_rfl) (fun _ _ _ h => h) (Or.inl ⟨by rfl, ?hy11_24⟩) (by assumption) ?rest11_24
        case hy11_24 => intro w hSw; (try dsimp only at hSw); go_simp; (try with_reducible rfl)
        try simp only [Act.put, List.getElem_toArray, List.getElem_cons_succ, List.getElem_cons_zero, List.setIfInBounds_toArray, List.set_cons_zero, List.set_cons_succ]
        refine wpAnyH_take (i := 12) (v := ?v12_25) rfl (by kernel_rfl) (by kernel_rfl) (by kernel_rfl) (fun _ _ _ h => h) (Or.inl ⟨by rfl, ?hy12_25⟩) (by assumption) ?rest12_25
        case hy12_25 => intro w hSw; (try dsimp only at hSw); go_simp; (try with_reducible rfl)
        try simp only [Act.put, List.getElem_toArray, List.getElem_cons_succ, List.getElem_cons_zero, List.setIfInBounds_toArray, List.set_cons_zero, List.set_cons_succ]
        refine wpAnyH_take (i := 13) (v := ?v13_26) rfl (by kernel_rfl) (by kernel_rfl) (by kernel_rfl) (fun _ _ _ h => h) (Or.inl ⟨by rfl, ?hy13_26⟩) (by assumption) ?rest13_26
        case hy13_26 => intro w hSw; (try dsimp only at hSw); go_simp; (try with_reducible rfl)
        try simp only [Act.put, List.getElem_toArray, List.getElem_cons_succ, List.getElem_cons_zero, List.setIfInBounds_toArray, List.set_cons_zero, List.set_cons_succ]
        refine wpAnyH_take (i := 14) (v := ?v14_27) rfl (by kernel_rfl) (by kernel_rfl) (by kernel_rfl) (fun _ _ _ h => h) (Or.inl ⟨by rfl, ?hy14_27⟩) (by assumption) ?rest14_27
        case hy14_27 => intro w hSw; (try dsimp only at hSw); go_simp; (try with_reducible rfl)
        try simp only [Act.put, List.getElem_toArray, List.getElem_cons_succ, List.getElem_cons_zero, List.setIfInBounds_toArray, List.set_cons_zero, List.set_cons_succ]
        refine wpAnyH_take (i := 16) (v := ?v16_28) rfl (by kernel_rfl) (by kernel_rfl) (by kernel_rfl) (fun _ _ _ h => h) (Or.inl ⟨by rfl, ?hy16_28⟩) (by assumption) ?rest16_28
        case hy16_28 => intro w hSw; (try dsimp only at hSw); go_simp; (try with_reducible rfl)
        try simp only [Act.put, List.getElem_toArray, List.getElem_cons_succ, List.getElem_cons_zero, List.setIfInBounds_toArray, List.set_cons_zero, List.set_cons_succ]
        refine wpAnyH_ready (rs := [15]) (by kernel_rfl) (by simp) ?_
        refine AllReadyH.cons rfl (fun K9 hK9 => ?_) AllReadyH.nil
        go_simp
        refine (validQ_impl _ x _ (HQ.out _ (on hqz ywB))).mono ?_
        rintro e wC ⟨rfl, yy⟩
        rw [hval]
        have ywC : Below w13.heap.size w13 wC := on ywB yy
        have swC := ywC.size
        clear yy
        refine hK9.out _ _ ⟨(ywC.cell (p := ⟨w1.heap.size, 0, none⟩) (by simp only []; omega)).trans X_0, (ywC.cell (p := ⟨w1.heap.size, 1, none⟩) (by simp only []; omega)).trans X_1, (ywC.cell (p := ⟨wp.heap.size, 0, none⟩) (by simp only []; omega)).trans Z_0, (ywC.cell (p := ⟨wp.heap.size, 1, none⟩) (by simp only []; omega)).trans Z_1⟩ (fun hHeld => ?_)
        clear hK9 K9
        try simp only [Act.put, List.getElem_toArray, List.getElem_cons_succ, List.getElem_cons_zero, List.setIfInBounds_toArray, List.set_cons_zero, List.set_cons_succ]
        refine wpAnyH_ready (rs := [17]) (by kernel_rfl) (by simp) ?_
        refine AllReadyH.cons rfl (fun K9 hK9 => ?_) AllReadyH.nil
        go_simp
        refine (validQ_spec _ x _ (HQ.out _ (on hqz ywC))).mono ?_
        rintro e wD ⟨rfl, yy⟩
        rw [hval]
        have ywD : Below w13.heap.size w13 wD := on ywC yy
        have swD := ywD.size
        clear yy
        refine hK9.out _ _ ⟨(ywD.cell (p := ⟨w1.heap.size, 0, none⟩) (by simp only []; omega)).trans X_0, (ywD.cell (p := ⟨w1.heap.size, 1, none⟩) (by simp only []; omega)).trans X_1, (ywD.cell (p := ⟨wp.heap.size, 0, none⟩) (by simp only []; omega)).trans Z_0, (ywD.cell (p := ⟨wp.heap.size, 1, none⟩) (by simp only []; omega)).trans Z_1⟩ (fun hHeld => ?_)
        clear hK9 K9
        try simp only [Act.put, List.getElem_toArray, List.getElem_cons_succ, List.getElem_cons_zero, List.setIfInBounds_toArray, List.set_cons_zero, List.set_cons_succ]
        refine wpAnyH_take (i := 18) (v := ?v18_29) rfl (by kernel_rfl) (by kernel_rfl) (by kernel_rfl) (fun _ _ _ h => h) (Or.inl ⟨by rfl, ?hy18_29⟩) (by assumption) ?rest18_29
        case hy18_29 => intro w hSw; (try dsimp only at hSw); go_simp; (try with_reducible rfl)
        try simp only [Act.put, List.getElem_toArray, List.getElem_cons_succ, List.getElem_cons_zero, List.setIfInBounds_toArray, List.set_cons_zero, List.set_cons_succ]
        refine wpAnyH_take (i := 19) (v := ?v19_30) rfl (by kernel_rfl) (by kernel_rfl) (by kernel_rfl) (fun _ _ _ h => h) (Or.inl ⟨by rfl, ?hy19_30⟩) (by assumption) ?rest19_30
        case hy19_30 => intro w hSw; (try dsimp only at hSw); go_simp; (try with_reducible rfl)
        try simp only [Act.put, List.getElem_toArray, List.getElem_cons_succ, List.getElem_cons_zero, List.setIfInBounds_toArray, List.set_cons_zero, List.set_cons_succ]
        refine wpAnyH_done (by kernel_rfl) ?_ _
        refine NoPanic.normal ?_
        have s31 := ywD.size
        have hb31 := on hb13 ywD
        replace X_0 := (ywD.cell (p := ⟨w1.heap.size, 0, none⟩) (by simp only []; omega)).trans X_0
        replace X_1 := (ywD.cell (p := ⟨w1.heap.size, 1, none⟩) (by simp only []; omega)).trans X_1
        replace op := op.below ywD (by omega)
        replace Z_0 := (ywD.cell (p := ⟨wp.heap.size, 0, none⟩) (by simp only []; omega)).trans Z_0
        replace Z_1 := (ywD.cell (p := ⟨wp.heap.size, 1, none⟩) (by simp only []; omega)).trans Z_1
        have hbw := hb31
        clear op
        clear X_0 X_1 Z_0 Z_1
        clear hdr hqo hqf hqp hqz
        go_wp2_with fail
        refine (drawAtomCols_any _ ba bn bc hbn (HBY.out.at hb31)).mono ?_
        rintro e w32 ⟨m, ab, an, ac, lb, ln, lc, a, ls, rfl, ra, hal, rl, z32⟩
        have s33 := z32.size
        have hb33 := on hb31 z32
        obtain ⟨ab2, an2, ac2, e2, hs2, gv⟩ := rA_open ra
        simp only [List.cons.injEq, and_true, Value.string.injEq, Value.slice.injEq] at e2
        obtain ⟨e21, e22, e23, e24⟩ := e2
        subst e22
        subst e23
        subst e24
        obtain ⟨han, ia⟩ := rI_openQ gv
        subst han
        obtain ⟨hln, il⟩ := rI_openQ rl
        subst hln
        obtain ⟨AV, hAV⟩ : ∃ q, a.2 = q := ⟨_, rfl⟩
        rw [hAV] at ia hal
        simp only [hAV]
        clear gv ra rl hs2 e21 hAV
        obtain ⟨w34, hw34⟩ : ∃ W, W = w32.alloc (.cells #[.string m, .slice ab AV.length ac] 43) := ⟨_, rfl⟩
        have z34 : Below w32.heap.size w32 w34 := by rw [hw34]; exact (Below.refl _ _).alloc (Nat.le_refl _) _
        have s34 : w34.heap.size = w32.heap.size + 1 := by rw [hw34]; simp
        have hb34 := on hb33 z34
        replace ia := ia.below z34
        replace il := il.below z34
        have T_0 : w34.cell? ⟨w32.heap.size, 0, none⟩ = some (.string m) := by rw [hw34]; exact box_cell (Below.refl _ _) rfl
        have T_1 : w34.cell? ⟨w32.heap.size, 1, none⟩ = some (.slice ab AV.length ac) := by rw [hw34]; exact box_cell (Below.refl _ _) rfl
        have raw34_T_0 := T_0
        have raw34_T_1 := T_1
        rw [hw34] at raw34_T_0 raw34_T_1
        go_wp2_with fail
        rw [← hw34]
        clear hw34
        clear raw34_T_0 raw34_T_1
        refine (atomCols_impl m ab lb AV.length ls.length ac lc AV ls _ ia il (by omega)).mono ?_
        rintro e wg ⟨gb, gn, gc, rfl, og, zg⟩
        have ig := og.ints
        have hgn := ig.len
        have HCM := Lib.hid (fun (v : Int) (hv : v ∈ colsOf ls AV AV.length) => colsOf_mem hv)
        obtain ⟨CL, hCL⟩ : ∃ q, colsOf ls AV AV.length = q := ⟨_, rfl⟩
        have HCL := Lib.hid hCL
        rw [hCL] at ig hgn HCM
        subst hgn
        clear og hCL
        have s35 := zg.size
        have hb35 := on hb34 zg
        replace ia := ia.below zg
        replace il := il.below zg
        replace T_0 := (zg.cell (p := ⟨w32.heap.size, 0, none⟩) (by simp only []; omega)).trans T_0
        replace T_1 := (zg.cell (p := ⟨w32.heap.size, 1, none⟩) (by simp only []; omega)).trans T_1
        go_wp2_with fail
        obtain ⟨wl2, rfl⟩ : ∃ W, W = wg := ⟨_, rfl⟩
        go_loopw [16] (fun i wr => ∃ j : Nat, j ≤ CL.length ∧ i = .int .i64 (j : Int) ∧ Drew wl2 wr) (fun i _ => CL.length - (intOf i).toNat)
        case atStart => exact ⟨0, Nat.zero_le _, rfl, Drew.refl _⟩
        case round =>
          obtain ⟨j, hj, rfl, hdr0⟩ := hrel
          obtain ⟨wo2, rfl⟩ : ∃ W, W = wr := ⟨_, rfl⟩
          have hCs := ig.small
          have zlo2 : Below wl2.heap.size wl2 wo2 := hdr0.below _
          have slo2 := zlo2.size
          by_cases hlt2 : j < CL.length
          · obtain ⟨b1, o1, v, rfl, c1, hv0, hv1, hv2⟩ := ig.get hlt2
            have hvm : v ∈ CL := by have := has_yes (by omega) hv0.out; simpa [has] using this
            obtain ⟨p, hp, hvp, hhas⟩ := HCM.out v hvm
            subst hvp
            obtain ⟨b2, o2, y, rfl, c3, hy0, hy1, hy2⟩ := ia.get hp
            rw [hy0.out] at hhas
            have c2 := (zlo2.cell (p := ⟨b1, o1 + j, none⟩) (cell_lt c1)).trans c1
            have c4 := (zlo2.cell (p := ⟨b2, o2 + p, none⟩) (cell_lt c3)).trans c3
            have t1 := (zlo2.cell (p := ⟨w32.heap.size, 1, none⟩) (by simp only []; omega)).trans T_1
            have HH := Lib.hid (fun (q : Nat) => lawHas_any lb ls.length lc ls y (wo2.drewN q) ((il.below zlo2).drewN q))
            rw [hhas] at HH
            have hji : (j : Int) < (CL.length : Int) := by omega
            have hp0 : ¬ ((p : Int) < 0) := by omega
            have hpn : ¬ ((AV.length : Int) ≤ (p : Int)) := by omega
            have hpl : (p : Int) < (AV.length : Int) := by omega
            have d1 : decide ((p : Int) < 0) = false := by rw [decide_eq_false_iff_not]; exact hp0
            have d2 : decide ((AV.length : Int) ≤ (p : Int)) = false := by rw [decide_eq_false_iff_not]; exact hpn
            clear hvm hv0 hy0 c1 c3 HCM HCL zlo2 hhas
            go_wp2_with fail
            go_quiet ((go_at_call 17; exact quiet_same (HH.out _)))
            go_wp2_with fail
            go_roundw
            case rel => exact ⟨j + 1, by omega, by go_num, hdr0.trans ⟨_, rfl⟩⟩
            case measure => simp [intOf]; omega
          · have hji : ¬ ((j : Int) < (CL.length : Int)) := by omega
            have t0 := (zlo2.cell (p := ⟨w32.heap.size, 0, none⟩) (by simp only []; omega)).trans T_0
            have t1 := (zlo2.cell (p := ⟨w32.heap.size, 1, none⟩) (by simp only []; omega)).trans T_1
            have hbo2 : Below w.heap.size w wo2 := on hb35 zlo2
            have ia2 := ia.below zlo2
            have il2 := il.below zlo2
            have ig2 := ig.below zlo2
            clear hdr0 HCM T_0 T_1
            go_wp2_with fail
            refine (atomCols_spec m ab lb AV.length ls.length ac lc AV ls _ ia2 il2 (by omega)).mono ?_
            rintro e wh ⟨hb, hn9, hc, rfl, oh, zh⟩
            have ih := oh.ints
            have hhn := ih.len
            rw [HCL.out] at ih hhn
            subst hhn
            have ig3 := ig2.below zh
            go_wp2_with fail
            refine (sameInts_eq _ _ _ _ _ CL _ ig3 ih).mono ?_
            rintro e wi ⟨rfl, zi⟩
            go_wp2_with fail
            go_ret
            exact ⟨rfl, on (on hbo2 zh) (zi.below _)⟩
      | false =>
        have hpar := par_fmtN hval
        rw [hpar] at op
        rw [hpar]
        simp only [Option.getD_none, Option.isSome_none] at op ⊢
        clear hpar hsz
        obtain ⟨w36, hw36⟩ : ∃ W, W = wp.alloc (.cells #[.int .i64 zc, .slice zb zn zcc] 24) := ⟨_, rfl⟩
        have z36 : Below wp.heap.size wp w36 := by rw [hw36]; exact (Below.refl _ _).alloc (Nat.le_refl _) _
        have s36 : w36.heap.size = wp.heap.size + 1 := by rw [hw36]; simp
        have hb36 := on hb12 z36
        have old36_X_0 := X_0
        have old36_X_1 := X_1
        replace X_0 := (z36.cell (p := ⟨w1.heap.size, 0, none⟩) (by simp only []; omega)).trans X_0
        replace X_1 := (z36.cell (p := ⟨w1.heap.size, 1, none⟩) (by simp only []; omega)).trans X_1
        replace op := op.below z36 (by omega)
        have Z_0 : w36.cell? ⟨wp.heap.size, 0, none⟩ = some (.int .i64 zc) := by rw [hw36]; exact box_cell (Below.refl _ _) rfl
        have Z_1 : w36.cell? ⟨wp.heap.size, 1, none⟩ = some (.slice zb zn zcc) := by rw [hw36]; exact box_cell (Below.refl _ _) rfl
        have raw36_X_0 := X_0
        have raw36_X_1 := X_1
        have raw36_Z_0 := Z_0
        have raw36_Z_1 := Z_1
        rw [hw36] at raw36_X_0 raw36_X_1 raw36_Z_0 raw36_Z_1
        go_wp2_with fail
        rw [← hw36]
        clear hw36
        clear old36_X_0 old36_X_1 raw36_X_0 raw36_X_1 raw36_Z_0 raw36_Z_1
        have hqz := on hqp z36
        have hneq : (false != false) = false := rfl
        have hdr : Below w36.heap.size w36 w36.drew := (Below.refl _ _).drew
        refine wp_region_noPanic ?_
        refine wp_region_held_drew (S := (fun W => W.cell? ⟨w1.heap.size, 0, none⟩ = some (.int .i64 c0) ∧ W.cell? ⟨w1.heap.size, 1, none⟩ = some (.slice qb qn qc) ∧ W.cell? ⟨wp.heap.size, 0, none⟩ = some (.int .i64 zc) ∧ W.cell? ⟨wp.heap.size, 1, none⟩ = some (.slice zb zn zcc))) (by kernel_rfl) ?hS37 (fun hHeld => ?_)
        case hS37 => exact ⟨X_0, X_1, Z_0, Z_1⟩
        refine wpAnyH_take (i := 0) (v := ?v0_38) rfl (by kernel_rfl) (by kernel_rfl) (by kernel_rfl) (fun _ _ _ h => h) (Or.inl ⟨by rfl, ?hy0_38⟩) (by assumption) ?rest0_38
        case hy0_38 => intro w hSw; (try dsimp only at hSw); go_simp; (try with_reducible rfl)
        try simp only [Act.put, List.getElem_toArray, List.getElem_cons_succ, List.getElem_cons_zero, List.setIfInBounds_toArray, List.set_cons_zero, List.set_cons_succ]
        refine wpAnyH_take (i := 1) (v := ?v1_39) rfl (by kernel_rfl) (by kernel_rfl) (by kernel_rfl) (fun _ _ _ h => h) (Or.inl ⟨by rfl, ?hy1_39⟩) (by assumption) ?rest1_39
        case hy1_39 => intro w hSw; (try dsimp only at hSw); go_simp; (try with_reducible rfl)
        try simp only [Act.put, List.getElem_toArray, List.getElem_cons_succ, List.getElem_cons_zero, List.setIfInBounds_toArray, List.set_cons_zero, List.set_cons_succ]
        refine wpAnyH_ready (rs := [2]) (by kernel_rfl) (by simp) ?_
        refine AllReadyH.cons rfl (fun K9 hK9 => ?_) AllReadyH.nil
        go_simp
        refine (validQ_spec _ x _ (HQ.out _ (on hqz hdr))).mono ?_
        rintro e wA ⟨rfl, yy⟩
        rw [hval]
        have ywA : Below w36.heap.size w36 wA := on hdr yy
        have swA := ywA.size
        clear yy
        refine hK9.out _ _ ⟨(ywA.cell (p := ⟨w1.heap.size, 0, none⟩) (by simp only []; omega)).trans X_0, (ywA.cell (p := ⟨w1.heap.size, 1, none⟩) (by simp only []; omega)).trans X_1, (ywA.cell (p := ⟨wp.heap.size, 0, none⟩) (by simp only []; omega)).trans Z_0, (ywA.cell (p := ⟨wp.heap.size, 1, none⟩) (by simp only []; omega)).trans Z_1⟩ (fun hHeld => ?_)
        clear hK9 K9
        try simp only [Act.put, List.getElem_toArray, List.getElem_cons_succ, List.getElem_cons_zero, List.setIfInBounds_toArray, List.set_cons_zero, List.set_cons_succ]
        refine wpAnyH_take (i := 3) (v := ?v3_40) rfl (by kernel_rfl) (by kernel_rfl) (by kernel_rfl) (fun _ _ _ h => h) (Or.inl ⟨by rfl, ?hy3_40⟩) (by assumption) ?rest3_40
        case hy3_40 => intro w hSw; (try dsimp only at hSw); go_simp; (try with_reducible rfl)
        try simp only [Act.put, List.getElem_toArray, List.getElem_cons_succ, List.getElem_cons_zero, List.setIfInBounds_toArray, List.set_cons_zero, List.set_cons_succ]
        refine wpAnyH_take (i := 4) (v := ?v4_41) rfl (by kernel_rfl) (by kernel_rfl) (by kernel_rfl) (fun _ _ _ h => h) (Or.inl ⟨by rfl, ?hy4_41⟩) (by assumption) ?rest4_41
        case hy4_41 => intro w hSw; (try dsimp only at hSw); go_simp; (try with_reducible rfl)
        try simp only [Act.put, List.getElem_toArray, List.getElem_cons_succ, List.getElem_cons_zero, List.setIfInBounds_toArray, List.set_cons_zero, List.set_cons_succ]
        refine wpAnyH_take (i := 5) (v := ?v5_42) rfl (by kernel_rfl) (by kernel_rfl) (by kernel_rfl) (fun _ _ _ h => h) (Or.inl ⟨by rfl, ?hy5_42⟩) (by assumption) ?rest5_42
        case hy5_42 => intro w hSw; (try dsimp only at hSw); go_simp; (try with_reducible rfl)
        try simp only [Act.put, List.getElem_toArray, List.getElem_cons_succ, List.getElem_cons_zero, List.setIfInBounds_toArray, List.set_cons_zero, List.set_cons_succ]
        refine wpAnyH_take (i := 6) (v := ?v6_43) rfl (by kernel_rfl) (by kernel_rfl) (by kernel_rfl) (fun _ _ _ h => h) (Or.inl ⟨by rfl, ?hy6_43⟩) (by assumption) ?rest6_43
        case hy6_43 => intro w hSw; (try dsimp only at hSw); go_simp; (try with_reducible rfl)
        try simp only [Act.put, List.getElem_toArray, List.getElem_cons_succ, List.getElem_cons_zero, List.setIfInBounds_toArray, List.set_cons_zero, List.set_cons_succ]
        refine wpAnyH_take (i := 7) (v := undef) rfl (by kernel_rfl) (by kernel_rfl) (by kernel_rfl) (fun _ _ _ h => h) (Or.inr ⟨by rfl, rfl⟩) (by assumption) ?_
        try simp only [Act.put, List.getElem_toArray, List.getElem_cons_succ, List.getElem_cons_zero, List.setIfInBounds_toArray, List.set_cons_zero, List.set_cons_succ]
        refine wpAnyH_take (i := 8) (v := undef) rfl (by kernel_rfl) (by kernel_rfl) (by kernel_rfl) (fun _ _ _ h => h) (Or.inr ⟨by rfl, rfl⟩) (by assumption) ?_
        try simp only [Act.put, List.getElem_toArray, List.getElem_cons_succ, List.getElem_cons_zero, List.setIfInBounds_toArray, List.set_cons_zero, List.set_cons_succ]
        refine wpAnyH_take (i := 9) (v := undef) rfl (by kernel_rfl) (by kernel_rfl) (by kernel_rfl) (fun _ _ _ h => h) (Or.inr ⟨by rfl, rfl⟩) (by assumption) ?_
        try simp only [Act.put, List.getElem_toArray, List.getElem_cons_succ, List.getElem_cons_zero, List.setIfInBounds_toArray, List.set_cons_zero, List.set_cons_succ]
        refine wpAnyH_take (i := 10) (v := undef) rfl (by kernel_rfl) (by kernel_rfl) (by kernel_rfl) (fun _ _ _ h => h) (Or.inr ⟨by rfl, rfl⟩) (by assumption) ?_
        try simp only [Act.put, List.getElem_toArray, List.getElem_cons_succ, List.getElem_cons_zero, List.setIfInBounds_toArray, List.set_cons_zero, List.set_cons_succ]
        refine wpAnyH_take (i := 11) (v := ?v11_44) rfl (by kernel_rfl) (by kernel_rfl) (by kernel_rfl) (fun _ _ _ h => h) (Or.inl ⟨by rfl, ?hy11_44⟩) (by assumption) ?rest11_44
        case hy11_44 => intro w hSw; (try dsimp only at hSw); go_simp; (try with_reducible rfl)
        try simp only [Act.put, List.getElem_toArray, List.getElem_cons_succ, List.getElem_cons_zero, List.setIfInBounds_toArray, List.set_cons_zero, List.set_cons_succ]
        refine wpAnyH_take (i := 12) (v := ?v12_45) rfl (by kernel_rfl) (by kernel_rfl) (by kernel_rfl) (fun _ _ _ h => h) (Or.inl ⟨by rfl, ?hy12_45⟩) (by assumption) ?rest12_45
        case hy12_45 => intro w hSw; (try dsimp only at hSw); go_simp; (try with_reducible rfl)
        try simp only [Act.put, List.getElem_toArray, List.getElem_cons_succ, List.getElem_cons_zero, List.setIfInBounds_toArray, List.set_cons_zero, List.set_cons_succ]
        refine wpAnyH_take (i := 13) (v := ?v13_46) rfl (by kernel_rfl) (by kernel_rfl) (by kernel_rfl) (fun _ _ _ h => h) (Or.inl ⟨by rfl, ?hy13_46⟩) (by assumption) ?rest13_46
        case hy13_46 => intro w hSw; (try dsimp only at hSw); go_simp; (try with_reducible rfl)
        try simp only [Act.put, List.getElem_toArray, List.getElem_cons_succ, List.getElem_cons_zero, List.setIfInBounds_toArray, List.set_cons_zero, List.set_cons_succ]
        refine wpAnyH_take (i := 14) (v := ?v14_47) rfl (by kernel_rfl) (by kernel_rfl) (by kernel_rfl) (fun _ _ _ h => h) (Or.inl ⟨by rfl, ?hy14_47⟩) (by assumption) ?rest14_47
        case hy14_47 => intro w hSw; (try dsimp only at hSw); go_simp; (try with_reducible rfl)
        try simp only [Act.put, List.getElem_toArray, List.getElem_cons_succ, List.getElem_cons_zero, List.setIfInBounds_toArray, List.set_cons_zero, List.set_cons_succ]
        refine wpAnyH_take (i := 16) (v := ?v16_48) rfl (by kernel_rfl) (by kernel_rfl) (by kernel_rfl) (fun _ _ _ h => h) (Or.inl ⟨by rfl, ?hy16_48⟩) (by assumption) ?rest16_48
        case hy16_48 => intro w hSw; (try dsimp only at hSw); go_simp; (try with_reducible rfl)
        try simp only [Act.put, List.getElem_toArray, List.getElem_cons_succ, List.getElem_cons_zero, List.setIfInBounds_toArray, List.set_cons_zero, List.set_cons_succ]
        refine wpAnyH_ready (rs := [15]) (by kernel_rfl) (by simp) ?_
        refine AllReadyH.cons rfl (fun K9 hK9 => ?_) AllReadyH.nil
        go_simp
        refine (validQ_impl _ x _ (HQ.out _ (on hqz ywA))).mono ?_
        rintro e wC ⟨rfl, yy⟩
        rw [hval]
        have ywC : Below w36.heap.size w36 wC := on ywA yy
        have swC := ywC.size
        clear yy
        refine hK9.out _ _ ⟨(ywC.cell (p := ⟨w1.heap.size, 0, none⟩) (by simp only []; omega)).trans X_0, (ywC.cell (p := ⟨w1.heap.size, 1, none⟩) (by simp only []; omega)).trans X_1, (ywC.cell (p := ⟨wp.heap.size, 0, none⟩) (by simp only []; omega)).trans Z_0, (ywC.cell (p := ⟨wp.heap.size, 1, none⟩) (by simp only []; omega)).trans Z_1⟩ (fun hHeld => ?_)
        clear hK9 K9
        try simp only [Act.put, List.getElem_toArray, List.getElem_cons_succ, List.getElem_cons_zero, List.setIfInBounds_toArray, List.set_cons_zero, List.set_cons_succ]
        refine wpAnyH_ready (rs := [17]) (by kernel_rfl) (by simp) ?_
        refine AllReadyH.cons rfl (fun K9 hK9 => ?_) AllReadyH.nil
        go_simp
        refine (validQ_spec _ x _ (HQ.out _ (on hqz ywC))).mono ?_
        rintro e wD ⟨rfl, yy⟩
        rw [hval]
        have ywD : Below w36.heap.size w36 wD := on ywC yy
        have swD := ywD.size
        clear yy
        refine hK9.out _ _ ⟨(ywD.cell (p := ⟨w1.heap.size, 0, none⟩) (by simp only []; omega)).trans X_0, (ywD.cell (p := ⟨w1.heap.size, 1, none⟩) (by simp only []; omega)).trans X_1, (ywD.cell (p := ⟨wp.heap.size, 0, none⟩) (by simp only []; omega)).trans Z_0, (ywD.cell (p := ⟨wp.heap.size, 1, none⟩) (by simp only []; omega)).trans Z_1⟩ (fun hHeld => ?_)
        clear hK9 K9
        try simp only [Act.put, List.getElem_toArray, List.getElem_cons_succ, List.getElem_cons_zero, List.setIfInBounds_toArray, List.set_cons_zero, List.set_cons_succ]
        refine wpAnyH_take (i := 18) (v := ?v18_49) rfl (by kernel_rfl) (by kernel_rfl) (by kernel_rfl) (fun _ _ _ h => h) (Or.inl ⟨by rfl, ?hy18_49⟩) (by assumption) ?rest18_49
        case hy18_49 => intro w hSw; (try dsimp only at hSw); go_simp; (try with_reducible rfl)
        try simp only [Act.put, List.getElem_toArray, List.getElem_cons_succ, List.getElem_cons_zero, List.setIfInBounds_toArray, List.set_cons_zero, List.set_cons_succ]
        refine wpAnyH_take (i := 19) (v := ?v19_50) rfl (by kernel_rfl) (by kernel_rfl) (by kernel_rfl) (fun _ _ _ h => h) (Or.inl ⟨by rfl, ?hy19_50⟩) (by assumption) ?rest19_50
        case hy19_50 => intro w hSw; (try dsimp only at hSw); go_simp; (try with_reducible rfl)
        try simp only [Act.put, List.getElem_toArray, List.getElem_cons_succ, List.getElem_cons_zero, List.setIfInBounds_toArray, List.set_cons_zero, List.set_cons_succ]
        refine wpAnyH_done (by kernel_rfl) ?_ _
        refine NoPanic.normal ?_
        have s51 := ywD.size
        have hb51 := on hb36 ywD
        replace X_0 := (ywD.cell (p := ⟨w1.heap.size, 0, none⟩) (by simp only []; omega)).trans X_0
        replace X_1 := (ywD.cell (p := ⟨w1.heap.size, 1, none⟩) (by simp only []; omega)).trans X_1
        replace op := op.below ywD (by omega)
        replace Z_0 := (ywD.cell (p := ⟨wp.heap.size, 0, none⟩) (by simp only []; omega)).trans Z_0
        replace Z_1 := (ywD.cell (p := ⟨wp.heap.size, 1, none⟩) (by simp only []; omega)).trans Z_1
        have hbw := hb51
        clear op
        clear X_0 X_1 Z_0 Z_1
        clear hdr hqo hqf hqp hqz
        go_wp2_with fail
        refine (drawAtomCols_any _ ba bn bc hbn (HBY.out.at hb51)).mono ?_
        rintro e w52 ⟨m, ab, an, ac, lb, ln, lc, a, ls, rfl, ra, hal, rl, z52⟩
        have s53 := z52.size
        have hb53 := on hb51 z52
        obtain ⟨ab2, an2, ac2, e2, hs2, gv⟩ := rA_open ra
        simp only [List.cons.injEq, and_true, Value.string.injEq, Value.slice.injEq] at e2
        obtain ⟨e21, e22, e23, e24⟩ := e2
        subst e22
        subst e23
        subst e24
        obtain ⟨han, ia⟩ := rI_openQ gv
        subst han
        obtain ⟨hln, il⟩ := rI_openQ rl
        subst hln
        obtain ⟨AV, hAV⟩ : ∃ q, a.2 = q := ⟨_, rfl⟩
        rw [hAV] at ia hal
        simp only [hAV]
        clear gv ra rl hs2 e21 hAV
        obtain ⟨w54, hw54⟩ : ∃ W, W = w52.alloc (.cells #[.string m, .slice ab AV.length ac] 43) := ⟨_, rfl⟩
        have z54 : Below w52.heap.size w52 w54 := by rw [hw54]; exact (Below.refl _ _).alloc (Nat.le_refl _) _
        have s54 : w54.heap.size = w52.heap.size + 1 := by rw [hw54]; simp
        have hb54 := on hb53 z54
        replace ia := ia.below z54
        replace il := il.below z54
        have T_0 : w54.cell? ⟨w52.heap.size, 0, none⟩ = some (.string m) := by rw [hw54]; exact box_cell (Below.refl _ _) rfl
        have T_1 : w54.cell? ⟨w52.heap.size, 1, none⟩ = some (.slice ab AV.length ac) := by rw [hw54]; exact box_cell (Below.refl _ _) rfl
        have raw54_T_0 := T_0
        have raw54_T_1 := T_1
        rw [hw54] at raw54_T_0 raw54_T_1
        go_wp2_with fail
        rw [← hw54]
        clear hw54
        clear raw54_T_0 raw54_T_1
        refine (atomCols_impl m ab lb AV.length ls.length ac lc AV ls _ ia il (by omega)).mono ?_
        rintro e wg ⟨gb, gn, gc, rfl, og, zg⟩
        have ig := og.ints
        have hgn := ig.len
        have HCM := Lib.hid (fun (v : Int) (hv : v ∈ colsOf ls AV AV.length) => colsOf_mem hv)
        obtain ⟨CL, hCL⟩ : ∃ q, colsOf ls AV AV.length = q := ⟨_, rfl⟩
        have HCL := Lib.hid hCL
        rw [hCL] at ig hgn HCM
        subst hgn
        clear og hCL
        have s55 := zg.size
        have hb55 := on hb54 zg
        replace ia := ia.below zg
        replace il := il.below zg
        replace T_0 := (zg.cell (p := ⟨w52.heap.size, 0, none⟩) (by simp only []; omega)).trans T_0
        replace T_1 := (zg.cell (p := ⟨w52.heap.size, 1, none⟩) (by simp only []; omega)).trans T_1
        go_wp2_with fail
        obtain ⟨wl2, rfl⟩ : ∃ W, W = wg := ⟨_, rfl⟩
        go_loopw [16] (fun i wr => ∃ j : Nat, j ≤ CL.length ∧ i = .int .i64 (j : Int) ∧ Drew wl2 wr) (fun i _ => CL.length - (intOf i).toNat)
        case atStart => exact ⟨0, Nat.zero_le _, rfl, Drew.refl _⟩
        case round =>
          obtain ⟨j, hj, rfl, hdr0⟩ := hrel
          obtain ⟨wo2, rfl⟩ : ∃ W, W = wr := ⟨_, rfl⟩
          have hCs := ig.small
          have zlo2 : Below wl2.heap.size wl2 wo2 := hdr0.below _
          have slo2 := zlo2.size
          by_cases hlt2 : j < CL.length
          · obtain ⟨b1, o1, v, rfl, c1, hv0, hv1, hv2⟩ := ig.get hlt2
            have hvm : v ∈ CL := by have := has_yes (by omega) hv0.out; simpa [has] using this
            obtain ⟨p, hp, hvp, hhas⟩ := HCM.out v hvm
            subst hvp
            obtain ⟨b2, o2, y, rfl, c3, hy0, hy1, hy2⟩ := ia.get hp
            rw [hy0.out] at hhas
            have c2 := (zlo2.cell (p := ⟨b1, o1 + j, none⟩) (cell_lt c1)).trans c1
            have c4 := (zlo2.cell (p := ⟨b2, o2 + p, none⟩) (cell_lt c3)).trans c3
            have t1 := (zlo2.cell (p := ⟨w52.heap.size, 1, none⟩) (by simp only []; omega)).trans T_1
            have HH := Lib.hid (fun (q : Nat) => lawHas_any lb ls.length lc ls y (wo2.drewN q) ((il.below zlo2).drewN q))
            rw [hhas] at HH
            have hji : (j : Int) < (CL.length : Int) := by omega
            have hp0 : ¬ ((p : Int) < 0) := by omega
            have hpn : ¬ ((AV.length : Int) ≤ (p : Int)) := by omega
            have hpl : (p : Int) < (AV.length : Int) := by omega
            have d1 : decide ((p : Int) < 0) = false := by rw [decide_eq_false_iff_not]; exact hp0
            have d2 : decide ((AV.length : Int) ≤ (p : Int)) = false := by rw [decide_eq_false_iff_not]; exact hpn
            clear hvm hv0 hy0 c1 c3 HCM HCL zlo2 hhas
            go_wp2_with fail
            go_quiet ((go_at_call 17; exact quiet_same (HH.out _)))
            go_wp2_with fail
            go_roundw
            case rel => exact ⟨j + 1, by omega, by go_num, hdr0.trans ⟨_, rfl⟩⟩
            case measure => simp [intOf]; omega
          · have hji : ¬ ((j : Int) < (CL.length : Int)) := by omega
            have t0 := (zlo2.cell (p := ⟨w52.heap.size, 0, none⟩) (by simp only []; omega)).trans T_0
            have t1 := (zlo2.cell (p := ⟨w52.heap.size, 1, none⟩) (by simp only []; omega)).trans T_1
            have hbo2 : Below w.heap.size w wo2 := on hb55 zlo2
            have ia2 := ia.below zlo2
            have il2 := il.below zlo2
            have ig2 := ig.below zlo2
            clear hdr0 HCM T_0 T_1
            go_wp2_with fail
            refine (atomCols_spec m ab lb AV.length ls.length ac lc AV ls _ ia2 il2 (by omega)).mono ?_
            rintro e wh ⟨hb, hn9, hc, rfl, oh, zh⟩
            have ih := oh.ints
            have hhn := ih.len
            rw [HCL.out] at ih hhn
            subst hhn
            have ig3 := ig2.below zh
            go_wp2_with fail
            refine (sameInts_eq _ _ _ _ _ CL _ ig3 ih).mono ?_
            rintro e wi ⟨rfl, zi⟩
            go_wp2_with fail
            go_ret
            exact ⟨rfl, on (on hbo2 zh) (zi.below _)⟩

end Go.Proofs.YtpgfkjcekhifiaaDoor
