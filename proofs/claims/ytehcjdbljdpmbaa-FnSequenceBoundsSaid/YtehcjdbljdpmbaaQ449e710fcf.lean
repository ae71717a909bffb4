/- Texts joined for one claim: LBounds. -/
import Derived.Test.YtehcjdbljdpmbaaQe9d03aafcc
import Derived.Test.YtehcjdbljdpmbaaQ1f53d1ad52
import Derived.Test.YtehcjdbljdpmbaaQ78b0bc09a1
import Derived.Test.YtehcjdbljdpmbaaQ147c26af10
import Derived.Test.YtehcjdbljdpmbaaQ05ab70db57
import Derived.Test.YtehcjdbljdpmbaaQa8c2556879

/- The walk of the law FnSequenceBounds. -/
namespace Go.Proofs.Ytehcjdbljdpmbaa
open Go.RowKit
set_option linter.unusedVariables false
set_option linter.unusedSimpArgs false
set_option synthInstance.maxSize 2000
set_option synthInstance.maxHeartbeats 400000

theorem rT_open9 {w : World} {m : ByteArray} {a : Int} {b : Option Addr} {n c : Nat} {t : DT} (h : rT.rep w [.string m, .int .i64 a, .slice b n c] t) : m = t.1 ∧ a = t.2.1 ∧ n = t.2.2.length := by
  obtain ⟨b2, n2, c2, e, h1, h2, h3⟩ := rT_open h
  simp only [List.cons.injEq, Value.string.injEq, Value.int.injEq, Value.slice.injEq, true_and, and_true] at e
  obtain ⟨rfl, rfl, rfl, rfl, rfl⟩ := e
  exact ⟨rfl, rfl, (rS_sl h3).len.symm⟩

theorem rT_rows {w : World} {m : ByteArray} {a : Int} {b : Option Addr} {n c : Nat} {t : DT} (h : rT.rep w [.string m, .int .i64 a, .slice b n c] t) : rII.rep w [.slice b n c] t.2.2 := by
  obtain ⟨b2, n2, c2, e, h1, h2, h3⟩ := rT_open h
  simp only [List.cons.injEq, Value.string.injEq, Value.int.injEq, Value.slice.injEq, true_and, and_true] at e
  obtain ⟨rfl, rfl, rfl, rfl, rfl⟩ := e
  exact h3

set_option maxRecDepth 100000 in
set_option maxHeartbeats 64000000 in
theorem walk_FnSequenceBounds (v0 : Value) (w : World) (h0 : kB_in w v0) :
    Calls Try.prog 3 #[v0] w fun e w' => e = .returned (.bool true) ∧ Below w.heap.size w w' := by
  obtain ⟨ba, bn, bc, rfl, hB⟩ := h0
  have hb0 : Below w.heap.size w w := Below.refl _ _
  go_enter Try.func3, Try.ntmps3
  go_wp2_with fail
  refine (big_any _ _ _ _).mono ?_
  rintro e w' ⟨rfl, rfl⟩
  by_cases hbig : 1048576 < bn
  · have e9 : decide (1048576 < bn) = true := by simpa using hbig
    rw [e9]
    go_wp2_with fail
    go_ret
    exact ⟨rfl, hb0⟩
  have e9 : decide (1048576 < bn) = false := by simpa using hbig
  rw [e9]
  clear e9
  go_wp2_with fail
  refine (drawPair_any _ ba bn bc (by omega) hB).mono ?_
  rintro e w1 ⟨b1, n1, c1, xs, b2, n2, c2, ys, rfl, oA, oB, hab, z1⟩
  have s2 := z1.size
  have hb2 := on hb0 z1
  obtain ⟨hn1, hc1, hm1, iA⟩ := rI_open9 (oA.rd reads_I)
  obtain ⟨hn2, hc2, hm2, iB⟩ := rI_open9 (oB.rd reads_I)
  subst hn1
  subst hn2
  have hsome : 0 < xs.length → ∃ g, b1 = some ⟨g, 0, none⟩ := fun h => own_some oA h
  clear oA oB
  have HNT := Lib.hid (norm_total xs)
  have hca := bound_cauchy xs ys
  have hma := bound_max xs ys
  have HNB := Lib.hid (fun h h' => norms_bound (a := xs) ys h h')
  have HND := Lib.hid (fun h h' => norms_dom (a := xs) h h')
  obtain ⟨P, hP⟩ : ∃ q, pairBound xs ys = q := ⟨_, rfl⟩
  obtain ⟨CA, hCA⟩ : ∃ q, cauchy xs ys = q := ⟨_, rfl⟩
  obtain ⟨MA, hMA⟩ : ∃ q, maxDegBound xs ys = q := ⟨_, rfl⟩
  rw [hP, hCA] at hca
  rw [hP, hMA] at hma
  rw [hP] at HNB
  have hca2 : ¬ CA < P := by omega
  have hma2 : ¬ MA < P := by omega
  have hPP : (P != P) = false := by simp
  go_wp2_with fail
  refine (pairBound_impl b1 b2 _ _ c1 c2 xs ys _ iA iB).mono ?_
  rintro e w3 ⟨rfl, z3⟩
  replace z3 : Below w1.heap.size w1 w3 := z3.below _
  have s4 := z3.size
  have hb4 := on hb2 z3
  replace iA := iA.below z3
  replace iB := iB.below z3
  rw [hP]
  go_wp2_with fail
  refine (pairBound_spec b1 b2 _ _ c1 c2 xs ys _ iA iB).mono ?_
  rintro e w5 ⟨rfl, z5⟩
  replace z5 : Below w3.heap.size w3 w5 := z5.below _
  have s6 := z5.size
  have hb6 := on hb4 z5
  replace iA := iA.below z5
  replace iB := iB.below z5
  rw [hP]
  go_wp2_with fail
  refine (cauchy_impl b1 b2 _ _ c1 c2 xs ys _ iA iB).mono ?_
  rintro e w' ⟨rfl, rfl⟩
  rw [hCA]
  go_wp2_with fail
  refine (maxDegBound_impl b1 b2 _ _ c1 c2 xs ys _ iA iB).mono ?_
  rintro e w7 ⟨rfl, z7⟩
  replace z7 : Below w5.heap.size w5 w7 := z7.below _
  have s8 := z7.size
  have hb8 := on hb6 z7
  replace iA := iA.below z7
  replace iB := iB.below z7
  rw [hMA]
  clear hca hma hCA hMA
  go_wp2_with fail
  refine (isDeg_spec _ _ _ xs _ iA).mono ?_
  rintro e w9 ⟨rfl, z9⟩
  replace z9 : Below w7.heap.size w7 w9 := z9.below _
  have s10 := z9.size
  have hb10 := on hb8 z9
  replace iA := iA.below z9
  replace iB := iB.below z9
  by_cases hD9 : isDeg xs = true
  · rw [hD9]
    by_cases hpos : 0 < xs.length
    · have hpos2 : (xs.length : Int) > 0 := by omega
      go_wp2_with fail
      obtain ⟨wq8, rfl⟩ : ∃ W, W = w9 := ⟨_, rfl⟩
      have hsmall := sum_rng hD9
      have hT0 : seqTotal xs = xs.sum := by unfold seqTotal; rw [if_pos hD9]
      obtain ⟨g, rfl⟩ := hsome hpos
      obtain ⟨b7, o7, l0, h7a, c7, hx7, hl7a, hl7b⟩ := iA.get (k := 0) hpos
      simp only [Option.some.injEq, Addr.mk.injEq] at h7a
      obtain ⟨rfl, rfl, _⟩ := h7a
      rw [Nat.zero_add] at c7
      obtain ⟨T0, hT9⟩ : ∃ q, seqTotal xs = q := ⟨_, rfl⟩
      have hT1 : I64 T0 := by rw [← hT9, hT0]; unfold I64; omega
      have HNB2 := Lib.hid (HNB.out hD9 hpos)
      have HND2 := Lib.hid (HND.out hD9 hpos)
      rw [hT9, hx7.out] at HNB2 HND2
      clear hT0 hsmall
      obtain ⟨F, hF9⟩ : ∃ q, fromNorms T0 l0 = q := ⟨_, rfl⟩
      rw [hF9] at HNB2 HND2
      have hdr : Below wq8.heap.size wq8 wq8.drew := (Below.refl _ _).drew
      refine wp_region_noPanic ?_
      refine wp_region_held_drew (S := (fun W => Below wq8.heap.size wq8 W)) (by kernel_rfl) ?hS8 (fun hHeld => ?_)
      case hS8 => exact hdr
      refine wpAnyH_take (i := 0) (v := ?v0_1) rfl (by kernel_rfl) (by kernel_rfl) (by kernel_rfl) (fun _ _ _ h => h) (Or.inl ⟨by rfl, ?hy0_1⟩) (by assumption) ?rest0_1
      case hy0_1 => intro w hSw; (try dsimp only at hSw); go_simp; (try with_reducible rfl)
      try simp only [Act.put, List.getElem_toArray, List.getElem_cons_succ, List.getElem_cons_zero, List.setIfInBounds_toArray, List.set_cons_zero, List.set_cons_succ]
      refine wpAnyH_take (i := 2) (v := ?v2_2) rfl (by kernel_rfl) (by kernel_rfl) (by kernel_rfl) (fun _ _ _ h => h) (Or.inl ⟨by rfl, ?hy2_2⟩) (by assumption) ?rest2_2
      case hy2_2 => intro w hSw; (try dsimp only at hSw); go_simp; (try with_reducible rfl)
      try simp only [Act.put, List.getElem_toArray, List.getElem_cons_succ, List.getElem_cons_zero, List.setIfInBounds_toArray, List.set_cons_zero, List.set_cons_succ]
      refine wpAnyH_take (i := 3) (v := ?v3_3) rfl (by kernel_rfl) (by kernel_rfl) (by kernel_rfl) (fun _ _ _ h => h) (Or.inl ⟨by rfl, ?hy3_3⟩) (by assumption) ?rest3_3
      case hy3_3 => intro w hSw; (try dsimp only at hSw); go_simp; (try with_reducible rfl)
      try simp only [Act.put, List.getElem_toArray, List.getElem_cons_succ, List.getElem_cons_zero, List.setIfInBounds_toArray, List.set_cons_zero, List.set_cons_succ]
      refine wpAnyH_take (i := 4) (v := ?v4_4) rfl (by kernel_rfl) (by kernel_rfl) (by kernel_rfl) (fun _ _ _ h => h) (Or.inl ⟨by rfl, ?hy4_4⟩) (by assumption) ?rest4_4
      case hy4_4 => intro w hSw; (try dsimp only at hSw); have q_c7 := (hSw.cell (p := ⟨g, 0, none⟩) (by first | exact cell_lt c7 | (simp only []; omega))).trans c7; go_simp; (try with_reducible rfl)
      try simp only [Act.put, List.getElem_toArray, List.getElem_cons_succ, List.getElem_cons_zero, List.setIfInBounds_toArray, List.set_cons_zero, List.set_cons_succ]
      refine wpAnyH_ready (rs := [1]) (by kernel_rfl) (by simp) ?_
      refine AllReadyH.cons rfl (fun K9 hK9 => ?_) AllReadyH.nil
      go_simp
      refine (seqTotal_spec _ _ _ xs _ (iA.below hdr)).mono ?_
      rintro e wA ⟨rfl, zA0⟩
      rw [hT9]
      have zA : Below wq8.heap.size wq8 wA := on hdr (zA0.below _)
      clear zA0
      refine hK9.out _ _ ?_ (fun hHeld => ?_)
      · exact zA
      clear hK9 K9
      try simp only [Act.put, List.getElem_toArray, List.getElem_cons_succ, List.getElem_cons_zero, List.setIfInBounds_toArray, List.set_cons_zero, List.set_cons_succ]
      refine wpAnyH_ready (rs := [5]) (by kernel_rfl) (by simp) ?_
      refine AllReadyH.cons rfl (fun K9 hK9 => ?_) AllReadyH.nil
      go_simp
      refine (fromNorms_impl T0 l0 _ hT1 ⟨hl7a, hl7b⟩).mono ?_
      rintro e wB ⟨fb9, fn9, fc9, rfl, oF0, zB⟩
      rw [hF9] at oF0
      have sB := zA.size
      have zAB := on zA zB
      have iF := oF0.ints
      refine hK9.out _ _ ?_ (fun hHeld => ?_)
      · exact zAB
      clear hK9 K9
      try simp only [Act.put, List.getElem_toArray, List.getElem_cons_succ, List.getElem_cons_zero, List.setIfInBounds_toArray, List.set_cons_zero, List.set_cons_succ]
      refine wpAnyH_take (i := 6) (v := ?v6_5) rfl (by kernel_rfl) (by kernel_rfl) (by kernel_rfl) (fun _ _ _ h => h) (Or.inl ⟨by rfl, ?hy6_5⟩) (by assumption) ?rest6_5
      case hy6_5 => intro w hSw; (try dsimp only at hSw); go_simp; (try with_reducible rfl)
      try simp only [Act.put, List.getElem_toArray, List.getElem_cons_succ, List.getElem_cons_zero, List.setIfInBounds_toArray, List.set_cons_zero, List.set_cons_succ]
      refine wpAnyH_done (by kernel_rfl) ?_ _
      refine NoPanic.normal ?_
      clear hF9 hT9 oF0 zA zB hdr sB
      have s11 := zAB.size
      have hb11 := on hb10 zAB
      replace iA := iA.below zAB
      replace iB := iB.below zAB
      have hFl := iF.len
      subst hFl
      go_wp2_with fail
      refine (dominates_spec _ _ _ _ _ _ F xs _ iF iA).mono ?_
      rintro e w12 ⟨rfl, z12⟩
      replace z12 : Below wB.heap.size wB w12 := z12.below _
      have s13 := z12.size
      have hb13 := on hb11 z12
      replace iA := iA.below z12
      replace iB := iB.below z12
      replace iF := iF.below z12
      rw [HND2.out]
      go_wp2_with fail
      refine (pairBound_impl _ _ _ _ _ _ F ys _ iF iB).mono ?_
      rintro e w14 ⟨rfl, z14⟩
      replace z14 : Below w12.heap.size w12 w14 := z14.below _
      have s15 := z14.size
      have hb15 := on hb13 z14
      replace iA := iA.below z14
      replace iB := iB.below z14
      replace iF := iF.below z14
      have hnb := HNB2.out
      obtain ⟨PF, hPF⟩ : ∃ q, pairBound F ys = q := ⟨_, rfl⟩
      rw [hPF] at hnb
      rw [hPF]
      have hnb2 : ¬ PF < P := by omega
      clear hnb hPF HNB2 HND2
      go_wp2_with fail
      clear iF
      go_wp2_with fail
      refine (drawDegSeq_any _ ba bn bc (by omega) (hB.at hb15)).mono ?_
      rintro e w16 ⟨t, cols, ub, un, uc, kb, kn, kc, rfl, hD, _, _, z16⟩
      have s17 := z16.size
      have hb17 := on hb15 z16
      replace iA := iA.below z16
      replace iB := iB.below z16
      obtain ⟨hT, _, _, hrl, _⟩ := hD
      obtain ⟨_, _, hun⟩ := rT_open9 (hT.rd reads_T)
      subst hun
      obtain ⟨w18, hw18⟩ : ∃ W, W = w16.alloc (.cells #[.string t.1, .int .i64 t.2.1, .slice ub t.2.2.length uc] 34) := ⟨_, rfl⟩
      have z18 : Below w16.heap.size w16 w18 := by rw [hw18]; exact (Below.refl _ _).alloc (Nat.le_refl _) _
      have s18 : w18.heap.size = w16.heap.size + 1 := by rw [hw18]; simp
      have hb18 := on hb17 z18
      replace iA := iA.below z18
      replace iB := iB.below z18
      replace hT := hT.below z18 (by omega)
      have X_0 : w18.cell? ⟨w16.heap.size, 0, none⟩ = some (.string t.1) := by rw [hw18]; exact box_cell (Below.refl _ _) rfl
      have X_1 : w18.cell? ⟨w16.heap.size, 1, none⟩ = some (.int .i64 t.2.1) := by rw [hw18]; exact box_cell (Below.refl _ _) rfl
      have X_2 : w18.cell? ⟨w16.heap.size, 2, none⟩ = some (.slice ub t.2.2.length uc) := by rw [hw18]; exact box_cell (Below.refl _ _) rfl
      have raw18_X_0 := X_0
      have raw18_X_1 := X_1
      have raw18_X_2 := X_2
      rw [hw18] at raw18_X_0 raw18_X_1 raw18_X_2
      go_wp2_with fail
      rw [← hw18]
      clear hw18
      clear raw18_X_0 raw18_X_1 raw18_X_2
      refine (fresh_any _ ba bn bc (hB.at hb18)).mono ?_
      rintro e w19 ⟨fb, fn, fc, rfl, hF, hfn, z19⟩
      have s20 := z19.size
      have hb20 := on hb18 z19
      replace iA := iA.below z19
      replace iB := iB.below z19
      replace hT := hT.below z19 (by omega)
      replace X_0 := (z19.cell (p := ⟨w16.heap.size, 0, none⟩) (by simp only []; omega)).trans X_0
      replace X_1 := (z19.cell (p := ⟨w16.heap.size, 1, none⟩) (by simp only []; omega)).trans X_1
      replace X_2 := (z19.cell (p := ⟨w16.heap.size, 2, none⟩) (by simp only []; omega)).trans X_2
      go_wp2_with fail
      refine (drawDegSeq_any _ fb fn fc (by omega) hF).mono ?_
      rintro e w21 ⟨u, cols2, vb, vn, vc, kb2, kn2, kc2, rfl, hD2, _, _, z21⟩
      have s22 := z21.size
      have hb22 := on hb20 z21
      replace iA := iA.below z21
      replace iB := iB.below z21
      replace hT := hT.below z21 (by omega)
      replace X_0 := (z21.cell (p := ⟨w16.heap.size, 0, none⟩) (by simp only []; omega)).trans X_0
      replace X_1 := (z21.cell (p := ⟨w16.heap.size, 1, none⟩) (by simp only []; omega)).trans X_1
      replace X_2 := (z21.cell (p := ⟨w16.heap.size, 2, none⟩) (by simp only []; omega)).trans X_2
      obtain ⟨hU, _, _, hrl2, _⟩ := hD2
      obtain ⟨_, _, hvn⟩ := rT_open9 (hU.rd reads_T)
      subst hvn
      clear hF
      obtain ⟨w23, hw23⟩ : ∃ W, W = w21.alloc (.cells #[.string u.1, .int .i64 u.2.1, .slice vb u.2.2.length vc] 34) := ⟨_, rfl⟩
      have z23 : Below w21.heap.size w21 w23 := by rw [hw23]; exact (Below.refl _ _).alloc (Nat.le_refl _) _
      have s23 : w23.heap.size = w21.heap.size + 1 := by rw [hw23]; simp
      have hb23 := on hb22 z23
      have old23_X_0 := X_0
      have old23_X_1 := X_1
      have old23_X_2 := X_2
      replace iA := iA.below z23
      replace iB := iB.below z23
      replace hT := hT.below z23 (by omega)
      replace X_0 := (z23.cell (p := ⟨w16.heap.size, 0, none⟩) (by simp only []; omega)).trans X_0
      replace X_1 := (z23.cell (p := ⟨w16.heap.size, 1, none⟩) (by simp only []; omega)).trans X_1
      replace X_2 := (z23.cell (p := ⟨w16.heap.size, 2, none⟩) (by simp only []; omega)).trans X_2
      replace hU := hU.below z23 (by omega)
      have U_0 : w23.cell? ⟨w21.heap.size, 0, none⟩ = some (.string u.1) := by rw [hw23]; exact box_cell (Below.refl _ _) rfl
      have U_1 : w23.cell? ⟨w21.heap.size, 1, none⟩ = some (.int .i64 u.2.1) := by rw [hw23]; exact box_cell (Below.refl _ _) rfl
      have U_2 : w23.cell? ⟨w21.heap.size, 2, none⟩ = some (.slice vb u.2.2.length vc) := by rw [hw23]; exact box_cell (Below.refl _ _) rfl
      have raw23_X_0 := X_0
      have raw23_X_1 := X_1
      have raw23_X_2 := X_2
      have raw23_U_0 := U_0
      have raw23_U_1 := U_1
      have raw23_U_2 := U_2
      rw [hw23] at raw23_X_0 raw23_X_1 raw23_X_2 raw23_U_0 raw23_U_1 raw23_U_2
      go_wp2_with fail
      rw [← hw23]
      clear hw23
      clear old23_X_0 old23_X_1 old23_X_2 raw23_X_0 raw23_X_1 raw23_X_2 raw23_U_0 raw23_U_1 raw23_U_2
      refine (validT_spec _ t _ (hT.rd reads_T)).mono ?_
      rintro e w24 ⟨rfl, z24⟩
      have s25 := z24.size
      have hb25 := on hb23 z24
      replace iA := iA.below z24
      replace iB := iB.below z24
      replace hT := hT.below z24 (by omega)
      replace X_0 := (z24.cell (p := ⟨w16.heap.size, 0, none⟩) (by simp only []; omega)).trans X_0
      replace X_1 := (z24.cell (p := ⟨w16.heap.size, 1, none⟩) (by simp only []; omega)).trans X_1
      replace X_2 := (z24.cell (p := ⟨w16.heap.size, 2, none⟩) (by simp only []; omega)).trans X_2
      replace hU := hU.below z24 (by omega)
      replace U_0 := (z24.cell (p := ⟨w21.heap.size, 0, none⟩) (by simp only []; omega)).trans U_0
      replace U_1 := (z24.cell (p := ⟨w21.heap.size, 1, none⟩) (by simp only []; omega)).trans U_1
      replace U_2 := (z24.cell (p := ⟨w21.heap.size, 2, none⟩) (by simp only []; omega)).trans U_2
      by_cases hvt : validT t = true
      · rw [hvt]
        go_wp2_with fail
        refine (validT_spec _ u _ (hU.rd reads_T)).mono ?_
        rintro e w26 ⟨rfl, z26⟩
        have s27 := z26.size
        have hb27 := on hb25 z26
        replace iA := iA.below z26
        replace iB := iB.below z26
        replace hT := hT.below z26 (by omega)
        replace X_0 := (z26.cell (p := ⟨w16.heap.size, 0, none⟩) (by simp only []; omega)).trans X_0
        replace X_1 := (z26.cell (p := ⟨w16.heap.size, 1, none⟩) (by simp only []; omega)).trans X_1
        replace X_2 := (z26.cell (p := ⟨w16.heap.size, 2, none⟩) (by simp only []; omega)).trans X_2
        replace hU := hU.below z26 (by omega)
        replace U_0 := (z26.cell (p := ⟨w21.heap.size, 0, none⟩) (by simp only []; omega)).trans U_0
        replace U_1 := (z26.cell (p := ⟨w21.heap.size, 1, none⟩) (by simp only []; omega)).trans U_1
        replace U_2 := (z26.cell (p := ⟨w21.heap.size, 2, none⟩) (by simp only []; omega)).trans U_2
        by_cases hvu : validT u = true
        · rw [hvu]
          go_wp2_with fail
          have HJB := Lib.hid (join_bound hvt hvu)
          have HVT := Lib.hid hvt
          have HVU := Lib.hid hvu
          have hlt8 := (TOk.of hvt).len
          have hlu8 := (TOk.of hvu).len
          obtain ⟨wq, rfl⟩ : ∃ W, W = w26 := ⟨_, rfl⟩
          have HTR := Lib.hid (fun W (hW : Below wq.heap.size wq W) => rT.mono (hT.rd reads_T) hW)
          have HUR := Lib.hid (fun W (hW : Below wq.heap.size wq W) => rT.mono (hU.rd reads_T) hW)
          have gT := rT_rows (hT.rd reads_T)
          have gU := rT_rows (hU.rd reads_T)
          have tT := rS_sl gT
          have tU := rS_sl gU
          clear gT gU hT hU hvt hvu
          go_loopw [11, 12] (fun s i wr => ∃ j S : Nat, j ≤ t.2.2.length ∧ i = .int .i64 (j : Int) ∧ s = .int .i64 (S : Int) ∧ S ≤ 10 * j ∧ Hid ((S : Int) = agree ((col0 t.2.2).take j) (col0 u.2.2)) ∧ Drew wq wr) (fun _ i _ => t.2.2.length - (intOf i).toNat)
          case atStart => exact ⟨0, 0, Nat.zero_le _, rfl, rfl, Nat.le_refl _, rfl, Drew.refl _⟩
          case round =>
            obtain ⟨j, S, hj, rfl, rfl, hS, HS, hdr⟩ := hrel
            obtain ⟨wo, rfl⟩ : ∃ W, W = wr := ⟨_, rfl⟩
            have x2 := (hdr.cell ⟨w16.heap.size, 2, none⟩).trans X_2
            have u2 := (hdr.cell ⟨w21.heap.size, 2, none⟩).trans U_2
            by_cases hlt : j < t.2.2.length
            · obtain ⟨b1, o1, r1, m1, q1, z1r, rfl, c1, hx1, i1, _, _⟩ := tT.row hlt
              have hl1 := valid_row HVT.out hx1.out
              rw [i1.len] at hl1
              obtain ⟨b2, o2, x0, rfl, c2, hx0, _, _⟩ := i1.get (k := 0) (by omega)
              rw [Nat.add_zero] at c2
              have d1 := (hdr.cell ⟨b1, o1 + j, none⟩).trans c1
              have d2 := (hdr.cell ⟨b2, o2, none⟩).trans c2
              have HST : Hid (agree ((col0 t.2.2).take (j + 1)) (col0 u.2.2) = (S : Int) + (cntRow [x0] (col0 u.2.2) : Int)) := Lib.hid (by rw [agree_step (col0_get hx1.out), hx0.out, ← HS.out])
              clear c1 c2 i1 hx1 hx0
              go_wp2_with fail
              go_loopw [11, 13] (fun s k wi => ∃ q Q : Nat, q ≤ u.2.2.length ∧ k = .int .i64 (q : Int) ∧ s = .int .i64 ((S + Q : Nat) : Int) ∧ Q ≤ q ∧ Hid (Q = cntRow [x0] ((col0 u.2.2).take q)) ∧ Drew wo wi) (fun _ k _ => u.2.2.length - (intOf k).toNat)
              case atStart => exact ⟨0, 0, Nat.zero_le _, rfl, rfl, Nat.le_refl _, rfl, Drew.refl _⟩
              case round =>
                obtain ⟨q, Q, hq, rfl, rfl, hQ, HQ, hdi⟩ := hrel
                have y2 := (hdi.cell ⟨w16.heap.size, 2, none⟩).trans x2
                have v2 := (hdi.cell ⟨w21.heap.size, 2, none⟩).trans u2
                by_cases hlq : q < u.2.2.length
                · obtain ⟨b3, o3, r3, m3, q3, z3r, rfl, c3, hx3, i3, _, _⟩ := tU.row hlq
                  have hl3 := valid_row HVU.out hx3.out
                  rw [i3.len] at hl3
                  obtain ⟨b4, o4, y0, rfl, c4, hy0, _, _⟩ := i3.get (k := 0) (by omega)
                  rw [Nat.add_zero] at c4
                  have e1 := (hdi.cell ⟨b1, o1 + j, none⟩).trans d1
                  have e2 := (hdi.cell ⟨b2, o2, none⟩).trans d2
                  have e3 := (hdi.cell ⟨b3, o3 + q, none⟩).trans ((hdr.cell ⟨b3, o3 + q, none⟩).trans c3)
                  have e4 := (hdi.cell ⟨b4, o4, none⟩).trans ((hdr.cell ⟨b4, o4, none⟩).trans c4)
                  have HQT : Hid (cntRow [x0] ((col0 u.2.2).take (q + 1)) = Q + (if x0 = y0 then 1 else 0)) := Lib.hid (by rw [cnt_step (y := y0) (by rw [col0_get hx3.out, hy0.out]), ← HQ.out])
                  clear c3 c4 i3 hx3 hy0 d1 d2
                  have hm1 : (0 : Int) < (m1 : Int) := by omega
                  have hm3 : (0 : Int) < (m3 : Int) := by omega
                  have hji : (j : Int) < (t.2.2.length : Int) := by omega
                  have hqi : (q : Int) < (u.2.2.length : Int) := by omega
                  by_cases hxy : x0 = y0
                  · subst hxy
                    go_wp2_with fail
                    go_quiet (fail)
                    go_wp2_with fail
                    go_roundw
                    case rel => exact ⟨q + 1, Q + 1, by omega, by go_num, by go_num, by omega, by rw [Hid, HQT.out]; simp, hdi.step _⟩
                    case measure => simp [intOf]; omega
                  · have hxe : (x0 == y0) = false := by rw [beq_eq_false_iff_ne]; exact hxy
                    go_wp2_with fail
                    go_quiet (fail)
                    go_wp2_with fail
                    go_roundw
                    case rel => exact ⟨q + 1, Q, by omega, by go_num, by go_num, by omega, by rw [Hid, HQT.out, if_neg hxy]; rfl, hdi.step _⟩
                    case measure => simp [intOf]; omega
                · obtain rfl : q = u.2.2.length := by omega
                  have hQE : Hid (((S + Q : Nat) : Int) = agree ((col0 t.2.2).take (j + 1)) (col0 u.2.2)) := Lib.hid (by
                    rw [HST.out, HQ.out, List.take_of_length_le (by rw [col0_len]; exact Nat.le_refl _)]; omega)
                  go_wp2_with fail
                  go_roundw
                  case rel => exact ⟨j + 1, S + Q, by omega, by go_num, by go_num, by omega, hQE.out, hdr.trans hdi⟩
                  case measure => simp [intOf]; omega
            · obtain rfl : j = t.2.2.length := by omega
              have HSE : Hid ((S : Int) ≤ pairBound (degSeq t [0]) (degSeq u [0])) := Lib.hid (by
                rw [HS.out, List.take_of_length_le (by rw [col0_len]; exact Nat.le_refl _)]; exact HJB.out)
              clear HJB x2 u2 HS
              have HJB := HSE
              clear HSE
              have hwo : Below wq.heap.size wq wo := hdr.below _
              replace hdr : Below wq.heap.size wq wo := hdr.below _
              have s28 := hdr.size
              have hb28 := on hb27 hdr
              replace iA := iA.below hdr
              replace iB := iB.below hdr
              replace X_0 := (hdr.cell (p := ⟨w16.heap.size, 0, none⟩) (by simp only []; omega)).trans X_0
              replace X_1 := (hdr.cell (p := ⟨w16.heap.size, 1, none⟩) (by simp only []; omega)).trans X_1
              replace X_2 := (hdr.cell (p := ⟨w16.heap.size, 2, none⟩) (by simp only []; omega)).trans X_2
              replace U_0 := (hdr.cell (p := ⟨w21.heap.size, 0, none⟩) (by simp only []; omega)).trans U_0
              replace U_1 := (hdr.cell (p := ⟨w21.heap.size, 1, none⟩) (by simp only []; omega)).trans U_1
              replace U_2 := (hdr.cell (p := ⟨w21.heap.size, 2, none⟩) (by simp only []; omega)).trans U_2
              go_wp2_with fail
              refine (drawRoot_any _ ba bn bc (by omega) (hB.at hb28)).mono ?_
              rintro e w29 ⟨x9, k9, rfl, hx9, hk9, z29⟩
              have s30 := z29.size
              have hb30 := on hb28 z29
              replace iA := iA.below z29
              replace iB := iB.below z29
              replace X_0 := (z29.cell (p := ⟨w16.heap.size, 0, none⟩) (by simp only []; omega)).trans X_0
              replace X_1 := (z29.cell (p := ⟨w16.heap.size, 1, none⟩) (by simp only []; omega)).trans X_1
              replace X_2 := (z29.cell (p := ⟨w16.heap.size, 2, none⟩) (by simp only []; omega)).trans X_2
              replace U_0 := (z29.cell (p := ⟨w21.heap.size, 0, none⟩) (by simp only []; omega)).trans U_0
              replace U_1 := (z29.cell (p := ⟨w21.heap.size, 1, none⟩) (by simp only []; omega)).trans U_1
              replace U_2 := (z29.cell (p := ⟨w21.heap.size, 2, none⟩) (by simp only []; omega)).trans U_2
              go_wp2_with fail
              refine (root_impl x9 k9 _).mono ?_
              rintro e w' ⟨rfl, rfl⟩
              obtain ⟨r9, hr9⟩ : ∃ q, rootOf x9 k9 = q := ⟨_, rfl⟩
              rw [hr9]
              have hqz := on hwo z29
              replace HTR := Lib.hid (fun W (hW : Below w29.heap.size w29 W) => HTR.out W (on hqz hW))
              replace HUR := Lib.hid (fun W (hW : Below w29.heap.size w29 W) => HUR.out W (on hqz hW))
              clear hqz tT tU hB
              obtain ⟨wz, rfl⟩ : ∃ W, W = w29 := ⟨_, rfl⟩
              go_wp2_with fail
              have hdr : Below wz.heap.size wz wz.drew := (Below.refl _ _).drew
              refine wp_region_noPanic ?_
              refine wp_region_held_drew (S := (fun W => Below wz.heap.size wz W)) (by kernel_rfl) ?hS9 (fun hHeld => ?_)
              case hS9 => exact hdr
              refine wpAnyH_take (i := 0) (v := ?v0_6) rfl (by kernel_rfl) (by kernel_rfl) (by kernel_rfl) (fun _ _ _ h => h) (Or.inl ⟨by rfl, ?hy0_6⟩) (by assumption) ?rest0_6
              case hy0_6 => intro w hSw; (try dsimp only at hSw); go_simp; (try with_reducible rfl)
              try simp only [Act.put, List.getElem_toArray, List.getElem_cons_succ, List.getElem_cons_zero, List.setIfInBounds_toArray, List.set_cons_zero, List.set_cons_succ]
              refine wpAnyH_take (i := 1) (v := ?v1_7) rfl (by kernel_rfl) (by kernel_rfl) (by kernel_rfl) (fun _ _ _ h => h) (Or.inl ⟨by rfl, ?hy1_7⟩) (by assumption) ?rest1_7
              case hy1_7 => intro w hSw; (try dsimp only at hSw); have q_X_0 := (hSw.cell (p := ⟨w16.heap.size, 0, none⟩) (by first | exact cell_lt X_0 | (simp only []; omega))).trans X_0; have q_X_1 := (hSw.cell (p := ⟨w16.heap.size, 1, none⟩) (by first | exact cell_lt X_1 | (simp only []; omega))).trans X_1; have q_X_2 := (hSw.cell (p := ⟨w16.heap.size, 2, none⟩) (by first | exact cell_lt X_2 | (simp only []; omega))).trans X_2; go_simp; (try with_reducible rfl)
              try simp only [Act.put, List.getElem_toArray, List.getElem_cons_succ, List.getElem_cons_zero, List.setIfInBounds_toArray, List.set_cons_zero, List.set_cons_succ]
              refine wpAnyH_take (i := 4) (v := ?v4_8) rfl (by kernel_rfl) (by kernel_rfl) (by kernel_rfl) (fun _ _ _ h => h) (Or.inl ⟨by rfl, ?hy4_8⟩) (by assumption) ?rest4_8
              case hy4_8 => intro w hSw; (try dsimp only at hSw); have q_U_0 := (hSw.cell (p := ⟨w21.heap.size, 0, none⟩) (by first | exact cell_lt U_0 | (simp only []; omega))).trans U_0; have q_U_1 := (hSw.cell (p := ⟨w21.heap.size, 1, none⟩) (by first | exact cell_lt U_1 | (simp only []; omega))).trans U_1; have q_U_2 := (hSw.cell (p := ⟨w21.heap.size, 2, none⟩) (by first | exact cell_lt U_2 | (simp only []; omega))).trans U_2; go_simp; (try with_reducible rfl)
              try simp only [Act.put, List.getElem_toArray, List.getElem_cons_succ, List.getElem_cons_zero, List.setIfInBounds_toArray, List.set_cons_zero, List.set_cons_succ]
              refine wpAnyH_ready (rs := [2, 5]) (by kernel_rfl) (by simp) ?_
              refine AllReadyH.cons rfl (fun K9 hK9 => ?_) (AllReadyH.cons rfl (fun K9 hK9 => ?_) AllReadyH.nil)
              · skip
                go_simp
                have oL1 : Own oI wz.heap.size (wz.heap.size + 1) ((wz.alloc (.cells #[.int .i64 0] 3)).drew) [.slice (some ⟨wz.heap.size, 0, none⟩) 1 1] [0] := (own_lit1 (W := wz) (by constructor <;> decide)).below ((Below.refl _ _).drew) (Nat.le_refl _)
                obtain ⟨wv9, hw9⟩ : ∃ W, W = (wz.alloc (.cells #[.int .i64 0] 3)).drew := ⟨_, rfl⟩
                rw [← hw9] at oL1 ⊢
                have zv9 : Below wz.heap.size wz wv9 := by rw [hw9]; exact ((Below.refl _ _).alloc (Nat.le_refl _) _).drew
                have sv9 : wv9.heap.size = wz.heap.size + 1 := by rw [hw9]; simp
                replace sv9 := Nat.le_of_eq sv9.symm
                clear hw9
                have hv9 := zv9
                refine hK9.out _ _ ?_ (fun hHeld => ?_)
                · exact hv9
                clear hK9 K9
                try simp only [Act.put, List.getElem_toArray, List.getElem_cons_succ, List.getElem_cons_zero, List.setIfInBounds_toArray, List.set_cons_zero, List.set_cons_succ]
                refine wpAnyH_ready (rs := [3, 5]) (by kernel_rfl) (by simp) ?_
                refine AllReadyH.cons rfl (fun K9 hK9 => ?_) (AllReadyH.cons rfl (fun K9 hK9 => ?_) AllReadyH.nil)
                · skip
                  go_simp
                  refine (degSeq_spec _ _ t [0] _ (HTR.out _ hv9) (oL1.rd reads_I)).mono ?_
                  rintro e wv10 ⟨db10, dn10, dc10, rfl, oD1, zv10⟩
                  have sv10 := zv10.size
                  replace oL1 := oL1.below zv10 (by omega)
                  have hv10 := on hv9 zv10
                  refine hK9.out _ _ ?_ (fun hHeld => ?_)
                  · exact hv10
                  clear hK9 K9
                  try simp only [Act.put, List.getElem_toArray, List.getElem_cons_succ, List.getElem_cons_zero, List.setIfInBounds_toArray, List.set_cons_zero, List.set_cons_succ]
                  refine wpAnyH_ready (rs := [5]) (by kernel_rfl) (by simp) ?_
                  refine AllReadyH.cons rfl (fun K9 hK9 => ?_) AllReadyH.nil
                  go_simp
                  have oL2 : Own oI wv10.heap.size (wv10.heap.size + 1) (wv10.alloc (.cells #[.int .i64 0] 3)) [.slice (some ⟨wv10.heap.size, 0, none⟩) 1 1] [0] := own_lit1 (W := wv10) (by constructor <;> decide)
                  obtain ⟨wv11, hw11⟩ : ∃ W, W = wv10.alloc (.cells #[.int .i64 0] 3) := ⟨_, rfl⟩
                  rw [← hw11] at oL2 ⊢
                  have zv11 : Below wv10.heap.size wv10 wv11 := by rw [hw11]; exact (Below.refl _ _).alloc (Nat.le_refl _) _
                  have sv11 : wv11.heap.size = wv10.heap.size + 1 := by rw [hw11]; simp
                  replace sv11 := Nat.le_of_eq sv11.symm
                  clear hw11
                  replace oD1 := oD1.below zv11 (by omega)
                  replace oL1 := oL1.below zv11 (by omega)
                  have hv11 := on hv10 zv11
                  refine hK9.out _ _ ?_ (fun hHeld => ?_)
                  · exact hv11
                  clear hK9 K9
                  try simp only [Act.put, List.getElem_toArray, List.getElem_cons_succ, List.getElem_cons_zero, List.setIfInBounds_toArray, List.set_cons_zero, List.set_cons_succ]
                  refine wpAnyH_ready (rs := [6]) (by kernel_rfl) (by simp) ?_
                  refine AllReadyH.cons rfl (fun K9 hK9 => ?_) AllReadyH.nil
                  go_simp
                  refine (degSeq_spec _ _ u [0] _ (HUR.out _ hv11) (oL2.rd reads_I)).mono ?_
                  rintro e wv12 ⟨db12, dn12, dc12, rfl, oD2, zv12⟩
                  have sv12 := zv12.size
                  replace oD1 := oD1.below zv12 (by omega)
                  replace oL1 := oL1.below zv12 (by omega)
                  replace oL2 := oL2.below zv12 (by omega)
                  have hv12 := on hv11 zv12
                  refine hK9.out _ _ ?_ (fun hHeld => ?_)
                  · exact hv12
                  clear hK9 K9
                  try simp only [Act.put, List.getElem_toArray, List.getElem_cons_succ, List.getElem_cons_zero, List.setIfInBounds_toArray, List.set_cons_zero, List.set_cons_succ]
                  refine wpAnyH_ready (rs := [7]) (by kernel_rfl) (by simp) ?_
                  refine AllReadyH.cons rfl (fun K9 hK9 => ?_) AllReadyH.nil
                  go_simp
                  refine (pairBound_impl _ _ _ _ _ _ _ _ _ (rI_open9 (oD1.rd reads_I)).2.2.2 (rI_open9 (oD2.rd reads_I)).2.2.2).mono ?_
                  rintro e wP ⟨rfl, zP0⟩
                  have zP := zP0.below wv12.heap.size
                  have hbP := on hv12 zP
                  obtain ⟨PB, hPB⟩ : ∃ q, pairBound (degSeq t [0]) (degSeq u [0]) = q := ⟨_, rfl⟩
                  have hle := HJB.out
                  rw [hPB] at hle
                  rw [hPB]
                  clear hPB zP0
                  refine hK9.out _ _ ?_ (fun hHeld => ?_)
                  · exact hbP
                  clear hK9 K9
                  try simp only [Act.put, List.getElem_toArray, List.getElem_cons_succ, List.getElem_cons_zero, List.setIfInBounds_toArray, List.set_cons_zero, List.set_cons_succ]
                  refine wpAnyH_take (i := 8) (v := ?v8_13) rfl (by kernel_rfl) (by kernel_rfl) (by kernel_rfl) (fun _ _ _ h => h) (Or.inl ⟨by rfl, ?hy8_13⟩) (by assumption) ?rest8_13
                  case hy8_13 => intro w hSw; (try dsimp only at hSw); go_simp; (try with_reducible rfl)
                  try simp only [Act.put, List.getElem_toArray, List.getElem_cons_succ, List.getElem_cons_zero, List.setIfInBounds_toArray, List.set_cons_zero, List.set_cons_succ]
                  refine wpAnyH_take (i := 9) (v := ?v9_14) rfl (by kernel_rfl) (by kernel_rfl) (by kernel_rfl) (fun _ _ _ h => h) (Or.inl ⟨by rfl, ?hy9_14⟩) (by assumption) ?rest9_14
                  case hy9_14 => intro w hSw; (try dsimp only at hSw); go_simp; (try with_reducible rfl)
                  try simp only [Act.put, List.getElem_toArray, List.getElem_cons_succ, List.getElem_cons_zero, List.setIfInBounds_toArray, List.set_cons_zero, List.set_cons_succ]
                  refine wpAnyH_take (i := 10) (v := ?v10_15) rfl (by kernel_rfl) (by kernel_rfl) (by kernel_rfl) (fun _ _ _ h => h) (Or.inl ⟨by rfl, ?hy10_15⟩) (by assumption) ?rest10_15
                  case hy10_15 => intro w hSw; (try dsimp only at hSw); go_simp; (try with_reducible rfl)
                  try simp only [Act.put, List.getElem_toArray, List.getElem_cons_succ, List.getElem_cons_zero, List.setIfInBounds_toArray, List.set_cons_zero, List.set_cons_succ]
                  refine wpAnyH_take (i := 11) (v := ?v11_16) rfl (by kernel_rfl) (by kernel_rfl) (by kernel_rfl) (fun _ _ _ h => h) (Or.inl ⟨by rfl, ?hy11_16⟩) (by assumption) ?rest11_16
                  case hy11_16 => intro w hSw; (try dsimp only at hSw); go_simp; (try with_reducible rfl)
                  try simp only [Act.put, List.getElem_toArray, List.getElem_cons_succ, List.getElem_cons_zero, List.setIfInBounds_toArray, List.set_cons_zero, List.set_cons_succ]
                  refine wpAnyH_take (i := 12) (v := ?v12_17) rfl (by kernel_rfl) (by kernel_rfl) (by kernel_rfl) (fun _ _ _ h => h) (Or.inl ⟨by rfl, ?hy12_17⟩) (by assumption) ?rest12_17
                  case hy12_17 => intro w hSw; (try dsimp only at hSw); go_simp; (try with_reducible rfl)
                  try simp only [Act.put, List.getElem_toArray, List.getElem_cons_succ, List.getElem_cons_zero, List.setIfInBounds_toArray, List.set_cons_zero, List.set_cons_succ]
                  refine wpAnyH_ready (rs := [13]) (by kernel_rfl) (by simp) ?_
                  refine AllReadyH.cons rfl (fun K9 hK9 => ?_) AllReadyH.nil
                  go_simp
                  refine (root_spec _ _ _).mono ?_
                  rintro e wR ⟨rfl, e9⟩
                  rw [hr9]
                  have hbR : Below wz.heap.size wz wR := by rw [← e9]; exact hbP
                  clear e9
                  refine hK9.out _ _ ?_ (fun hHeld => ?_)
                  · exact hbR
                  clear hK9 K9
                  try simp only [Act.put, List.getElem_toArray, List.getElem_cons_succ, List.getElem_cons_zero, List.setIfInBounds_toArray, List.set_cons_zero, List.set_cons_succ]
                  refine wpAnyH_take (i := 14) (v := ?v14_18) rfl (by kernel_rfl) (by kernel_rfl) (by kernel_rfl) (fun _ _ _ h => h) (Or.inl ⟨by rfl, ?hy14_18⟩) (by assumption) ?rest14_18
                  case hy14_18 => intro w hSw; (try dsimp only at hSw); go_simp; (try with_reducible rfl)
                  try simp only [Act.put, List.getElem_toArray, List.getElem_cons_succ, List.getElem_cons_zero, List.setIfInBounds_toArray, List.set_cons_zero, List.set_cons_succ]
                  refine wpAnyH_take (i := 15) (v := ?v15_19) rfl (by kernel_rfl) (by kernel_rfl) (by kernel_rfl) (fun _ _ _ h => h) (Or.inl ⟨by rfl, ?hy15_19⟩) (by assumption) ?rest15_19
                  case hy15_19 => intro w hSw; (try dsimp only at hSw); go_simp; (try with_reducible rfl)
                  try simp only [Act.put, List.getElem_toArray, List.getElem_cons_succ, List.getElem_cons_zero, List.setIfInBounds_toArray, List.set_cons_zero, List.set_cons_succ]
                  refine wpAnyH_take (i := 16) (v := ?v16_20) rfl (by kernel_rfl) (by kernel_rfl) (by kernel_rfl) (fun _ _ _ h => h) (Or.inl ⟨by rfl, ?hy16_20⟩) (by assumption) ?rest16_20
                  case hy16_20 => intro w hSw; (try dsimp only at hSw); go_simp; (try with_reducible rfl)
                  try simp only [Act.put, List.getElem_toArray, List.getElem_cons_succ, List.getElem_cons_zero, List.setIfInBounds_toArray, List.set_cons_zero, List.set_cons_succ]
                  refine wpAnyH_take (i := 17) (v := ?v17_21) rfl (by kernel_rfl) (by kernel_rfl) (by kernel_rfl) (fun _ _ _ h => h) (Or.inl ⟨by rfl, ?hy17_21⟩) (by assumption) ?rest17_21
                  case hy17_21 => intro w hSw; (try dsimp only at hSw); go_simp; (try with_reducible rfl)
                  try simp only [Act.put, List.getElem_toArray, List.getElem_cons_succ, List.getElem_cons_zero, List.setIfInBounds_toArray, List.set_cons_zero, List.set_cons_succ]
                  refine wpAnyH_take (i := 19) (v := ?v19_22) rfl (by kernel_rfl) (by kernel_rfl) (by kernel_rfl) (fun _ _ _ h => h) (Or.inl ⟨by rfl, ?hy19_22⟩) (by assumption) ?rest19_22
                  case hy19_22 => intro w hSw; (try dsimp only at hSw); go_simp; (try with_reducible rfl)
                  try simp only [Act.put, List.getElem_toArray, List.getElem_cons_succ, List.getElem_cons_zero, List.setIfInBounds_toArray, List.set_cons_zero, List.set_cons_succ]
                  refine wpAnyH_ready (rs := [18]) (by kernel_rfl) (by simp) ?_
                  refine AllReadyH.cons rfl (fun K9 hK9 => ?_) AllReadyH.nil
                  go_simp
                  refine (norm_impl _ _ _ xs 1 _ (iA.below hbR)).mono ?_
                  rintro e wN ⟨rfl, e9⟩
                  rw [HNT.out]
                  have hbN : Below wz.heap.size wz wN := by rw [← e9]; exact hbR
                  clear e9
                  refine hK9.out _ _ ?_ (fun hHeld => ?_)
                  · exact hbN
                  clear hK9 K9
                  try simp only [Act.put, List.getElem_toArray, List.getElem_cons_succ, List.getElem_cons_zero, List.setIfInBounds_toArray, List.set_cons_zero, List.set_cons_succ]
                  refine wpAnyH_ready (rs := [20]) (by kernel_rfl) (by simp) ?_
                  refine AllReadyH.cons rfl (fun K9 hK9 => ?_) AllReadyH.nil
                  go_simp
                  refine (seqTotal_impl _ _ _ xs _ (iA.below hbN)).mono ?_
                  rintro e wM ⟨rfl, e9⟩
                  have hbM : Below wz.heap.size wz wM := by rw [← e9]; exact hbN
                  clear e9
                  refine hK9.out _ _ ?_ (fun hHeld => ?_)
                  · exact hbM
                  clear hK9 K9
                  try simp only [Act.put, List.getElem_toArray, List.getElem_cons_succ, List.getElem_cons_zero, List.setIfInBounds_toArray, List.set_cons_zero, List.set_cons_succ]
                  refine wpAnyH_take (i := 21) (v := ?v21_23) rfl (by kernel_rfl) (by kernel_rfl) (by kernel_rfl) (fun _ _ _ h => h) (Or.inl ⟨by rfl, ?hy21_23⟩) (by assumption) ?rest21_23
                  case hy21_23 => intro w hSw; (try dsimp only at hSw); go_simp; (try with_reducible rfl)
                  try simp only [Act.put, List.getElem_toArray, List.getElem_cons_succ, List.getElem_cons_zero, List.setIfInBounds_toArray, List.set_cons_zero, List.set_cons_succ]
                  refine wpAnyH_take (i := 22) (v := ?v22_24) rfl (by kernel_rfl) (by kernel_rfl) (by kernel_rfl) (fun _ _ _ h => h) (Or.inl ⟨by rfl, ?hy22_24⟩) (by assumption) ?rest22_24
                  case hy22_24 => intro w hSw; (try dsimp only at hSw); go_simp; (try with_reducible rfl)
                  try simp only [Act.put, List.getElem_toArray, List.getElem_cons_succ, List.getElem_cons_zero, List.setIfInBounds_toArray, List.set_cons_zero, List.set_cons_succ]
                  refine wpAnyH_take (i := 23) (v := ?v23_25) rfl (by kernel_rfl) (by kernel_rfl) (by kernel_rfl) (fun _ _ _ h => h) (Or.inl ⟨by rfl, ?hy23_25⟩) (by assumption) ?rest23_25
                  case hy23_25 => intro w hSw; (try dsimp only at hSw); go_simp; (try with_reducible rfl)
                  try simp only [Act.put, List.getElem_toArray, List.getElem_cons_succ, List.getElem_cons_zero, List.setIfInBounds_toArray, List.set_cons_zero, List.set_cons_succ]
                  refine wpAnyH_done (by kernel_rfl) ?_ _
                  refine NoPanic.normal ?_
                  go_wp2_with fail
                  go_ret
                  exact ⟨ret_bool (by simp), hb30.trans (hbM.mono (by omega))⟩
                · skip
                  go_simp
                  have oL2 : Own oI wv9.heap.size (wv9.heap.size + 1) (wv9.alloc (.cells #[.int .i64 0] 3)) [.slice (some ⟨wv9.heap.size, 0, none⟩) 1 1] [0] := own_lit1 (W := wv9) (by constructor <;> decide)
                  obtain ⟨wv26, hw26⟩ : ∃ W, W = wv9.alloc (.cells #[.int .i64 0] 3) := ⟨_, rfl⟩
                  rw [← hw26] at oL2 ⊢
                  have zv26 : Below wv9.heap.size wv9 wv26 := by rw [hw26]; exact (Below.refl _ _).alloc (Nat.le_refl _) _
                  have sv26 : wv26.heap.size = wv9.heap.size + 1 := by rw [hw26]; simp
                  replace sv26 := Nat.le_of_eq sv26.symm
                  clear hw26
                  replace oL1 := oL1.below zv26 (by omega)
                  have hv26 := on hv9 zv26
                  refine hK9.out _ _ ?_ (fun hHeld => ?_)
                  · exact hv26
                  clear hK9 K9
                  try simp only [Act.put, List.getElem_toArray, List.getElem_cons_succ, List.getElem_cons_zero, List.setIfInBounds_toArray, List.set_cons_zero, List.set_cons_succ]
                  refine wpAnyH_ready (rs := [3]) (by kernel_rfl) (by simp) ?_
                  refine AllReadyH.cons rfl (fun K9 hK9 => ?_) AllReadyH.nil
                  go_simp
                  refine (degSeq_spec _ _ t [0] _ (HTR.out _ hv26) (oL1.rd reads_I)).mono ?_
                  rintro e wv27 ⟨db27, dn27, dc27, rfl, oD1, zv27⟩
                  have sv27 := zv27.size
                  replace oL1 := oL1.below zv27 (by omega)
                  replace oL2 := oL2.below zv27 (by omega)
                  have hv27 := on hv26 zv27
                  refine hK9.out _ _ ?_ (fun hHeld => ?_)
                  · exact hv27
                  clear hK9 K9
                  try simp only [Act.put, List.getElem_toArray, List.getElem_cons_succ, List.getElem_cons_zero, List.setIfInBounds_toArray, List.set_cons_zero, List.set_cons_succ]
                  refine wpAnyH_ready (rs := [6]) (by kernel_rfl) (by simp) ?_
                  refine AllReadyH.cons rfl (fun K9 hK9 => ?_) AllReadyH.nil
                  go_simp
                  refine (degSeq_spec _ _ u [0] _ (HUR.out _ hv27) (oL2.rd reads_I)).mono ?_
                  rintro e wv28 ⟨db28, dn28, dc28, rfl, oD2, zv28⟩
                  have sv28 := zv28.size
                  replace oD1 := oD1.below zv28 (by omega)
                  replace oL1 := oL1.below zv28 (by omega)
                  replace oL2 := oL2.below zv28 (by omega)
                  have hv28 := on hv27 zv28
                  refine hK9.out _ _ ?_ (fun hHeld => ?_)
                  · exact hv28
                  clear hK9 K9
                  try simp only [Act.put, List.getElem_toArray, List.getElem_cons_succ, List.getElem_cons_zero, List.setIfInBounds_toArray, List.set_cons_zero, List.set_cons_succ]
                  refine wpAnyH_ready (rs := [7]) (by kernel_rfl) (by simp) ?_
                  refine AllReadyH.cons rfl (fun K9 hK9 => ?_) AllReadyH.nil
                  go_simp
                  refine (pairBound_impl _ _ _ _ _ _ _ _ _ (rI_open9 (oD1.rd reads_I)).2.2.2 (rI_open9 (oD2.rd reads_I)).2.2.2).mono ?_
                  rintro e wP ⟨rfl, zP0⟩
                  have zP := zP0.below wv28.heap.size
                  have hbP := on hv28 zP
                  obtain ⟨PB, hPB⟩ : ∃ q, pairBound (degSeq t [0]) (degSeq u [0]) = q := ⟨_, rfl⟩
                  have hle := HJB.out
                  rw [hPB] at hle
                  rw [hPB]
                  clear hPB zP0
                  refine hK9.out _ _ ?_ (fun hHeld => ?_)
                  · exact hbP
                  clear hK9 K9
                  try simp only [Act.put, List.getElem_toArray, List.getElem_cons_succ, List.getElem_cons_zero, List.setIfInBounds_toArray, List.set_cons_zero, List.set_cons_succ]
                  refine wpAnyH_take (i := 8) (v := ?v8_29) rfl (by kernel_rfl) (by kernel_rfl) (by kernel_rfl) (fun _ _ _ h => h) (Or.inl ⟨by rfl, ?hy8_29⟩) (by assumption) ?rest8_29
                  case hy8_29 => intro w hSw; (try dsimp only at hSw); go_simp; (try with_reducible rfl)
                  try simp only [Act.put, List.getElem_toArray, List.getElem_cons_succ, List.getElem_cons_zero, List.setIfInBounds_toArray, List.set_cons_zero, List.set_cons_succ]
                  refine wpAnyH_take (i := 9) (v := ?v9_30) rfl (by kernel_rfl) (by kernel_rfl) (by kernel_rfl) (fun _ _ _ h => h) (Or.inl ⟨by rfl, ?hy9_30⟩) (by assumption) ?rest9_30
                  case hy9_30 => intro w hSw; (try dsimp only at hSw); go_simp; (try with_reducible rfl)
                  try simp only [Act.put, List.getElem_toArray, List.getElem_cons_succ, List.getElem_cons_zero, List.setIfInBounds_toArray, List.set_cons_zero, List.set_cons_succ]
                  refine wpAnyH_take (i := 10) (v := ?v10_31) rfl (by kernel_rfl) (by kernel_rfl) (by kernel_rfl) (fun _ _ _ h => h) (Or.inl ⟨by rfl, ?hy10_31⟩) (by assumption) ?rest10_31
                  case hy10_31 => intro w hSw; (try dsimp only at hSw); go_simp; (try with_reducible rfl)
                  try simp only [Act.put, List.getElem_toArray, List.getElem_cons_succ, List.getElem_cons_zero, List.setIfInBounds_toArray, List.set_cons_zero, List.set_cons_succ]
                  refine wpAnyH_take (i := 11) (v := ?v11_32) rfl (by kernel_rfl) (by kernel_rfl) (by kernel_rfl) (fun _ _ _ h => h) (Or.inl ⟨by rfl, ?hy11_32⟩) (by assumption) ?rest11_32
                  case hy11_32 => intro w hSw; (try dsimp only at hSw); go_simp; (try with_reducible rfl)
                  try simp only [Act.put, List.getElem_toArray, List.getElem_cons_succ, List.getElem_cons_zero, List.setIfInBounds_toArray, List.set_cons_zero, List.set_cons_succ]
                  refine wpAnyH_take (i := 12) (v := ?v12_33) rfl (by kernel_rfl) (by kernel_rfl) (by kernel_rfl) (fun _ _ _ h => h) (Or.inl ⟨by rfl, ?hy12_33⟩) (by assumption) ?rest12_33
                  case hy12_33 => intro w hSw; (try dsimp only at hSw); go_simp; (try with_reducible rfl)
                  try simp only [Act.put, List.getElem_toArray, List.getElem_cons_succ, List.getElem_cons_zero, List.setIfInBounds_toArray, List.set_cons_zero, List.set_cons_succ]
                  refine wpAnyH_ready (rs := [13]) (by kernel_rfl) (by simp) ?_
                  refine AllReadyH.cons rfl (fun K9 hK9 => ?_) AllReadyH.nil
                  go_simp
                  refine (root_spec _ _ _).mono ?_
                  rintro e wR ⟨rfl, e9⟩
                  rw [hr9]
                  have hbR : Below wz.heap.size wz wR := by rw [← e9]; exact hbP
                  clear e9
                  refine hK9.out _ _ ?_ (fun hHeld => ?_)
                  · exact hbR
                  clear hK9 K9
                  try simp only [Act.put, List.getElem_toArray, List.getElem_cons_succ, List.getElem_cons_zero, List.setIfInBounds_toArray, List.set_cons_zero, List.set_cons_succ]
                  refine wpAnyH_take (i := 14) (v := ?v14_34) rfl (by kernel_rfl) (by kernel_rfl) (by kernel_rfl) (fun _ _ _ h => h) (Or.inl ⟨by rfl, ?hy14_34⟩) (by assumption) ?rest14_34
                  case hy14_34 => intro w hSw; (try dsimp only at hSw); go_simp; (try with_reducible rfl)
                  try simp only [Act.put, List.getElem_toArray, List.getElem_cons_succ, List.getElem_cons_zero, List.setIfInBounds_toArray, List.set_cons_zero, List.set_cons_succ]
                  refine wpAnyH_take (i := 15) (v := ?v15_35) rfl (by kernel_rfl) (by kernel_rfl) (by kernel_rfl) (fun _ _ _ h => h) (Or.inl ⟨by rfl, ?hy15_35⟩) (by assumption) ?rest15_35
                  case hy15_35 => intro w hSw; (try dsimp only at hSw); go_simp; (try with_reducible rfl)
                  try simp only [Act.put, List.getElem_toArray, List.getElem_cons_succ, List.getElem_cons_zero, List.setIfInBounds_toArray, List.set_cons_zero, List.set_cons_succ]
                  refine wpAnyH_take (i := 16) (v := ?v16_36) rfl (by kernel_rfl) (by kernel_rfl) (by kernel_rfl) (fun _ _ _ h => h) (Or.inl ⟨by rfl, ?hy16_36⟩) (by assumption) ?rest16_36
                  case hy16_36 => intro w hSw; (try dsimp only at hSw); go_simp; (try with_reducible rfl)
                  try simp only [Act.put, List.getElem_toArray, List.getElem_cons_succ, List.getElem_cons_zero, List.setIfInBounds_toArray, List.set_cons_zero, List.set_cons_succ]
                  refine wpAnyH_take (i := 17) (v := ?v17_37) rfl (by kernel_rfl) (by kernel_rfl) (by kernel_rfl) (fun _ _ _ h => h) (Or.inl ⟨by rfl, ?hy17_37⟩) (by assumption) ?rest17_37
                  case hy17_37 => intro w hSw; (try dsimp only at hSw); go_simp; (try with_reducible rfl)
                  try simp only [Act.put, List.getElem_toArray, List.getElem_cons_succ, List.getElem_cons_zero, List.setIfInBounds_toArray, List.set_cons_zero, List.set_cons_succ]
                  refine wpAnyH_take (i := 19) (v := ?v19_38) rfl (by kernel_rfl) (by kernel_rfl) (by kernel_rfl) (fun _ _ _ h => h) (Or.inl ⟨by rfl, ?hy19_38⟩) (by assumption) ?rest19_38
                  case hy19_38 => intro w hSw; (try dsimp only at hSw); go_simp; (try with_reducible rfl)
                  try simp only [Act.put, List.getElem_toArray, List.getElem_cons_succ, List.getElem_cons_zero, List.setIfInBounds_toArray, List.set_cons_zero, List.set_cons_succ]
                  refine wpAnyH_ready (rs := [18]) (by kernel_rfl) (by simp) ?_
                  refine AllReadyH.cons rfl (fun K9 hK9 => ?_) AllReadyH.nil
                  go_simp
                  refine (norm_impl _ _ _ xs 1 _ (iA.below hbR)).mono ?_
                  rintro e wN ⟨rfl, e9⟩
                  rw [HNT.out]
                  have hbN : Below wz.heap.size wz wN := by rw [← e9]; exact hbR
                  clear e9
                  refine hK9.out _ _ ?_ (fun hHeld => ?_)
                  · exact hbN
                  clear hK9 K9
                  try simp only [Act.put, List.getElem_toArray, List.getElem_cons_succ, List.getElem_cons_zero, List.setIfInBounds_toArray, List.set_cons_zero, List.set_cons_succ]
                  refine wpAnyH_ready (rs := [20]) (by kernel_rfl) (by simp) ?_
                  refine AllReadyH.cons rfl (fun K9 hK9 => ?_) AllReadyH.nil
                  go_simp
                  refine (seqTotal_impl _ _ _ xs _ (iA.below hbN)).mono ?_
                  rintro e wM ⟨rfl, e9⟩
                  have hbM : Below wz.heap.size wz wM := by rw [← e9]; exact hbN
                  clear e9
                  refine hK9.out _ _ ?_ (fun hHeld => ?_)
                  · exact hbM
                  clear hK9 K9
                  try simp only [Act.put, List.getElem_toArray, List.getElem_cons_succ, List.getElem_cons_zero, List.setIfInBounds_toArray, List.set_cons_zero, List.set_cons_succ]
                  refine wpAnyH_take (i := 21) (v := ?v21_39) rfl (by kernel_rfl) (by kernel_rfl) (by kernel_rfl) (fun _ _ _ h => h) (Or.inl ⟨by rfl, ?hy21_39⟩) (by assumption) ?rest21_39
                  case hy21_39 => intro w hSw; (try dsimp only at hSw); go_simp; (try with_reducible rfl)
                  try simp only [Act.put, List.getElem_toArray, List.getElem_cons_succ, List.getElem_cons_zero, List.setIfInBounds_toArray, List.set_cons_zero, List.set_cons_succ]
                  refine wpAnyH_take (i := 22) (v := ?v22_40) rfl (by kernel_rfl) (by kernel_rfl) (by kernel_rfl) (fun _ _ _ h => h) (Or.inl ⟨by rfl, ?hy22_40⟩) (by assumption) ?rest22_40
                  case hy22_40 => intro w hSw; (try dsimp only at hSw); go_simp; (try with_reducible rfl)
                  try simp only [Act.put, List.getElem_toArray, List.getElem_cons_succ, List.getElem_cons_zero, List.setIfInBounds_toArray, List.set_cons_zero, List.set_cons_succ]
                  refine wpAnyH_take (i := 23) (v := ?v23_41) rfl (by kernel_rfl) (by kernel_rfl) (by kernel_rfl) (fun _ _ _ h => h) (Or.inl ⟨by rfl, ?hy23_41⟩) (by assumption) ?rest23_41
                  case hy23_41 => intro w hSw; (try dsimp only at hSw); go_simp; (try with_reducible rfl)
                  try simp only [Act.put, List.getElem_toArray, List.getElem_cons_succ, List.getElem_cons_zero, List.setIfInBounds_toArray, List.set_cons_zero, List.set_cons_succ]
                  refine wpAnyH_done (by kernel_rfl) ?_ _
                  refine NoPanic.normal ?_
                  go_wp2_with fail
                  go_ret
                  exact ⟨ret_bool (by simp), hb30.trans (hbM.mono (by omega))⟩
              · skip
                go_simp
                have oL2 : Own oI wz.heap.size (wz.heap.size + 1) ((wz.alloc (.cells #[.int .i64 0] 3)).drew) [.slice (some ⟨wz.heap.size, 0, none⟩) 1 1] [0] := (own_lit1 (W := wz) (by constructor <;> decide)).below ((Below.refl _ _).drew) (Nat.le_refl _)
                obtain ⟨wv42, hw42⟩ : ∃ W, W = (wz.alloc (.cells #[.int .i64 0] 3)).drew := ⟨_, rfl⟩
                rw [← hw42] at oL2 ⊢
                have zv42 : Below wz.heap.size wz wv42 := by rw [hw42]; exact ((Below.refl _ _).alloc (Nat.le_refl _) _).drew
                have sv42 : wv42.heap.size = wz.heap.size + 1 := by rw [hw42]; simp
                replace sv42 := Nat.le_of_eq sv42.symm
                clear hw42
                have hv42 := zv42
                refine hK9.out _ _ ?_ (fun hHeld => ?_)
                · exact hv42
                clear hK9 K9
                try simp only [Act.put, List.getElem_toArray, List.getElem_cons_succ, List.getElem_cons_zero, List.setIfInBounds_toArray, List.set_cons_zero, List.set_cons_succ]
                refine wpAnyH_ready (rs := [2]) (by kernel_rfl) (by simp) ?_
                refine AllReadyH.cons rfl (fun K9 hK9 => ?_) AllReadyH.nil
                go_simp
                have oL1 : Own oI wv42.heap.size (wv42.heap.size + 1) (wv42.alloc (.cells #[.int .i64 0] 3)) [.slice (some ⟨wv42.heap.size, 0, none⟩) 1 1] [0] := own_lit1 (W := wv42) (by constructor <;> decide)
                obtain ⟨wv43, hw43⟩ : ∃ W, W = wv42.alloc (.cells #[.int .i64 0] 3) := ⟨_, rfl⟩
                rw [← hw43] at oL1 ⊢
                have zv43 : Below wv42.heap.size wv42 wv43 := by rw [hw43]; exact (Below.refl _ _).alloc (Nat.le_refl _) _
                have sv43 : wv43.heap.size = wv42.heap.size + 1 := by rw [hw43]; simp
                replace sv43 := Nat.le_of_eq sv43.symm
                clear hw43
                replace oL2 := oL2.below zv43 (by omega)
                have hv43 := on hv42 zv43
                refine hK9.out _ _ ?_ (fun hHeld => ?_)
                · exact hv43
                clear hK9 K9
                try simp only [Act.put, List.getElem_toArray, List.getElem_cons_succ, List.getElem_cons_zero, List.setIfInBounds_toArray, List.set_cons_zero, List.set_cons_succ]
                refine wpAnyH_ready (rs := [3]) (by kernel_rfl) (by simp) ?_
                refine AllReadyH.cons rfl (fun K9 hK9 => ?_) AllReadyH.nil
                go_simp
                refine (degSeq_spec _ _ t [0] _ (HTR.out _ hv43) (oL1.rd reads_I)).mono ?_
                rintro e wv44 ⟨db44, dn44, dc44, rfl, oD1, zv44⟩
                have sv44 := zv44.size
                replace oL1 := oL1.below zv44 (by omega)
                replace oL2 := oL2.below zv44 (by omega)
                have hv44 := on hv43 zv44
                refine hK9.out _ _ ?_ (fun hHeld => ?_)
                · exact hv44
                clear hK9 K9
                try simp only [Act.put, List.getElem_toArray, List.getElem_cons_succ, List.getElem_cons_zero, List.setIfInBounds_toArray, List.set_cons_zero, List.set_cons_succ]
                refine wpAnyH_ready (rs := [6]) (by kernel_rfl) (by simp) ?_
                refine AllReadyH.cons rfl (fun K9 hK9 => ?_) AllReadyH.nil
                go_simp
                refine (degSeq_spec _ _ u [0] _ (HUR.out _ hv44) (oL2.rd reads_I)).mono ?_
                rintro e wv45 ⟨db45, dn45, dc45, rfl, oD2, zv45⟩
                have sv45 := zv45.size
                replace oD1 := oD1.below zv45 (by omega)
                replace oL1 := oL1.below zv45 (by omega)
                replace oL2 := oL2.below zv45 (by omega)
                have hv45 := on hv44 zv45
                refine hK9.out _ _ ?_ (fun hHeld => ?_)
                · exact hv45
                clear hK9 K9
                try simp only [Act.put, List.getElem_toArray, List.getElem_cons_succ, List.getElem_cons_zero, List.setIfInBounds_toArray, List.set_cons_zero, List.set_cons_succ]
                refine wpAnyH_ready (rs := [7]) (by kernel_rfl) (by simp) ?_
                refine AllReadyH.cons rfl (fun K9 hK9 => ?_) AllReadyH.nil
                go_simp
                refine (pairBound_impl _ _ _ _ _ _ _ _ _ (rI_open9 (oD1.rd reads_I)).2.2.2 (rI_open9 (oD2.rd reads_I)).2.2.2).mono ?_
                rintro e wP ⟨rfl, zP0⟩
                have zP := zP0.below wv45.heap.size
                have hbP := on hv45 zP
                obtain ⟨PB, hPB⟩ : ∃ q, pairBound (degSeq t [0]) (degSeq u [0]) = q := ⟨_, rfl⟩
                have hle := HJB.out
                rw [hPB] at hle
                rw [hPB]
                clear hPB zP0
                refine hK9.out _ _ ?_ (fun hHeld => ?_)
                · exact hbP
                clear hK9 K9
                try simp only [Act.put, List.getElem_toArray, List.getElem_cons_succ, List.getElem_cons_zero, List.setIfInBounds_toArray, List.set_cons_zero, List.set_cons_succ]
                refine wpAnyH_take (i := 8) (v := ?v8_46) rfl (by kernel_rfl) (by kernel_rfl) (by kernel_rfl) (fun _ _ _ h => h) (Or.inl ⟨by rfl, ?hy8_46⟩) (by assumption) ?rest8_46
                case hy8_46 => intro w hSw; (try dsimp only at hSw); go_simp; (try with_reducible rfl)
                try simp only [Act.put, List.getElem_toArray, List.getElem_cons_succ, List.getElem_cons_zero, List.setIfInBounds_toArray, List.set_cons_zero, List.set_cons_succ]
                refine wpAnyH_take (i := 9) (v := ?v9_47) rfl (by kernel_rfl) (by kernel_rfl) (by kernel_rfl) (fun _ _ _ h => h) (Or.inl ⟨by rfl, ?hy9_47⟩) (by assumption) ?rest9_47
                case hy9_47 => intro w hSw; (try dsimp only at hSw); go_simp; (try with_reducible rfl)
                try simp only [Act.put, List.getElem_toArray, List.getElem_cons_succ, List.getElem_cons_zero, List.setIfInBounds_toArray, List.set_cons_zero, List.set_cons_succ]
                refine wpAnyH_take (i := 10) (v := ?v10_48) rfl (by kernel_rfl) (by kernel_rfl) (by kernel_rfl) (fun _ _ _ h => h) (Or.inl ⟨by rfl, ?hy10_48⟩) (by assumption) ?rest10_48
                case hy10_48 => intro w hSw; (try dsimp only at hSw); go_simp; (try with_reducible rfl)
                try simp only [Act.put, List.getElem_toArray, List.getElem_cons_succ, List.getElem_cons_zero, List.setIfInBounds_toArray, List.set_cons_zero, List.set_cons_succ]
                refine wpAnyH_take (i := 11) (v := ?v11_49) rfl (by kernel_rfl) (by kernel_rfl) (by kernel_rfl) (fun _ _ _ h => h) (Or.inl ⟨by rfl, ?hy11_49⟩) (by assumption) ?rest11_49
                case hy11_49 => intro w hSw; (try dsimp only at hSw); go_simp; (try with_reducible rfl)
                try simp only [Act.put, List.getElem_toArray, List.getElem_cons_succ, List.getElem_cons_zero, List.setIfInBounds_toArray, List.set_cons_zero, List.set_cons_succ]
                refine wpAnyH_take (i := 12) (v := ?v12_50) rfl (by kernel_rfl) (by kernel_rfl) (by kernel_rfl) (fun _ _ _ h => h) (Or.inl ⟨by rfl, ?hy12_50⟩) (by assumption) ?rest12_50
                case hy12_50 => intro w hSw; (try dsimp only at hSw); go_simp; (try with_reducible rfl)
                try simp only [Act.put, List.getElem_toArray, List.getElem_cons_succ, List.getElem_cons_zero, List.setIfInBounds_toArray, List.set_cons_zero, List.set_cons_succ]
                refine wpAnyH_ready (rs := [13]) (by kernel_rfl) (by simp) ?_
                refine AllReadyH.cons rfl (fun K9 hK9 => ?_) AllReadyH.nil
                go_simp
                refine (root_spec _ _ _).mono ?_
                rintro e wR ⟨rfl, e9⟩
                rw [hr9]
                have hbR : Below wz.heap.size wz wR := by rw [← e9]; exact hbP
                clear e9
                refine hK9.out _ _ ?_ (fun hHeld => ?_)
                · exact hbR
                clear hK9 K9
                try simp only [Act.put, List.getElem_toArray, List.getElem_cons_succ, List.getElem_cons_zero, List.setIfInBounds_toArray, List.set_cons_zero, List.set_cons_succ]
                refine wpAnyH_take (i := 14) (v := ?v14_51) rfl (by kernel_rfl) (by kernel_rfl) (by kernel_rfl) (fun _ _ _ h => h) (Or.inl ⟨by rfl, ?hy14_51⟩) (by assumption) ?rest14_51
                case hy14_51 => intro w hSw; (try dsimp only at hSw); go_simp; (try with_reducible rfl)
                try simp only [Act.put, List.getElem_toArray, List.getElem_cons_succ, List.getElem_cons_zero, List.setIfInBounds_toArray, List.set_cons_zero, List.set_cons_succ]
                refine wpAnyH_take (i := 15) (v := ?v15_52) rfl (by kernel_rfl) (by kernel_rfl) (by kernel_rfl) (fun _ _ _ h => h) (Or.inl ⟨by rfl, ?hy15_52⟩) (by assumption) ?rest15_52
                case hy15_52 => intro w hSw; (try dsimp only at hSw); go_simp; (try with_reducible rfl)
                try simp only [Act.put, List.getElem_toArray, List.getElem_cons_succ, List.getElem_cons_zero, List.setIfInBounds_toArray, List.set_cons_zero, List.set_cons_succ]
                refine wpAnyH_take (i := 16) (v := ?v16_53) rfl (by kernel_rfl) (by kernel_rfl) (by kernel_rfl) (fun _ _ _ h => h) (Or.inl ⟨by rfl, ?hy16_53⟩) (by assumption) ?rest16_53
                case hy16_53 => intro w hSw; (try dsimp only at hSw); go_simp; (try with_reducible rfl)
                try simp only [Act.put, List.getElem_toArray, List.getElem_cons_succ, List.getElem_cons_zero, List.setIfInBounds_toArray, List.set_cons_zero, List.set_cons_succ]
                refine wpAnyH_take (i := 17) (v := ?v17_54) rfl (by kernel_rfl) (by kernel_rfl) (by kernel_rfl) (fun _ _ _ h => h) (Or.inl ⟨by rfl, ?hy17_54⟩) (by assumption) ?rest17_54
                case hy17_54 => intro w hSw; (try dsimp only at hSw); go_simp; (try with_reducible rfl)
                try simp only [Act.put, List.getElem_toArray, List.getElem_cons_succ, List.getElem_cons_zero, List.setIfInBounds_toArray, List.set_cons_zero, List.set_cons_succ]
                refine wpAnyH_take (i := 19) (v := ?v19_55) rfl (by kernel_rfl) (by kernel_rfl) (by kernel_rfl) (fun _ _ _ h => h) (Or.inl ⟨by rfl, ?hy19_55⟩) (by assumption) ?rest19_55
                case hy19_55 => intro w hSw; (try dsimp only at hSw); go_simp; (try with_reducible rfl)
                try simp only [Act.put, List.getElem_toArray, List.getElem_cons_succ, List.getElem_cons_zero, List.setIfInBounds_toArray, List.set_cons_zero, List.set_cons_succ]
                refine wpAnyH_ready (rs := [18]) (by kernel_rfl) (by simp) ?_
                refine AllReadyH.cons rfl (fun K9 hK9 => ?_) AllReadyH.nil
                go_simp
                refine (norm_impl _ _ _ xs 1 _ (iA.below hbR)).mono ?_
                rintro e wN ⟨rfl, e9⟩
                rw [HNT.out]
                have hbN : Below wz.heap.size wz wN := by rw [← e9]; exact hbR
                clear e9
                refine hK9.out _ _ ?_ (fun hHeld => ?_)
                · exact hbN
                clear hK9 K9
                try simp only [Act.put, List.getElem_toArray, List.getElem_cons_succ, List.getElem_cons_zero, List.setIfInBounds_toArray, List.set_cons_zero, List.set_cons_succ]
                refine wpAnyH_ready (rs := [20]) (by kernel_rfl) (by simp) ?_
                refine AllReadyH.cons rfl (fun K9 hK9 => ?_) AllReadyH.nil
                go_simp
                refine (seqTotal_impl _ _ _ xs _ (iA.below hbN)).mono ?_
                rintro e wM ⟨rfl, e9⟩
                have hbM : Below wz.heap.size wz wM := by rw [← e9]; exact hbN
                clear e9
                refine hK9.out _ _ ?_ (fun hHeld => ?_)
                · exact hbM
                clear hK9 K9
                try simp only [Act.put, List.getElem_toArray, List.getElem_cons_succ, List.getElem_cons_zero, List.setIfInBounds_toArray, List.set_cons_zero, List.set_cons_succ]
                refine wpAnyH_take (i := 21) (v := ?v21_56) rfl (by kernel_rfl) (by kernel_rfl) (by kernel_rfl) (fun _ _ _ h => h) (Or.inl ⟨by rfl, ?hy21_56⟩) (by assumption) ?rest21_56
                case hy21_56 => intro w hSw; (try dsimp only at hSw); go_simp; (try with_reducible rfl)
                try simp only [Act.put, List.getElem_toArray, List.getElem_cons_succ, List.getElem_cons_zero, List.setIfInBounds_toArray, List.set_cons_zero, List.set_cons_succ]
                refine wpAnyH_take (i := 22) (v := ?v22_57) rfl (by kernel_rfl) (by kernel_rfl) (by kernel_rfl) (fun _ _ _ h => h) (Or.inl ⟨by rfl, ?hy22_57⟩) (by assumption) ?rest22_57
                case hy22_57 => intro w hSw; (try dsimp only at hSw); go_simp; (try with_reducible rfl)
                try simp only [Act.put, List.getElem_toArray, List.getElem_cons_succ, List.getElem_cons_zero, List.setIfInBounds_toArray, List.set_cons_zero, List.set_cons_succ]
                refine wpAnyH_take (i := 23) (v := ?v23_58) rfl (by kernel_rfl) (by kernel_rfl) (by kernel_rfl) (fun _ _ _ h => h) (Or.inl ⟨by rfl, ?hy23_58⟩) (by assumption) ?rest23_58
                case hy23_58 => intro w hSw; (try dsimp only at hSw); go_simp; (try with_reducible rfl)
                try simp only [Act.put, List.getElem_toArray, List.getElem_cons_succ, List.getElem_cons_zero, List.setIfInBounds_toArray, List.set_cons_zero, List.set_cons_succ]
                refine wpAnyH_done (by kernel_rfl) ?_ _
                refine NoPanic.normal ?_
                go_wp2_with fail
                go_ret
                exact ⟨ret_bool (by simp), hb30.trans (hbM.mono (by omega))⟩
        · have hv9 : validT u = false := by simpa using hvu
          rw [hv9]
          go_wp2_with fail
          go_ret
          exact ⟨rfl, hb27⟩
      · have hv9 : validT t = false := by simpa using hvt
        rw [hv9]
        go_wp2_with fail
        go_ret
        exact ⟨rfl, hb25⟩
    · have hpos2 : ¬ (xs.length : Int) > 0 := by omega
      go_wp2_with fail
      go_wp2_with fail
      refine (drawDegSeq_any _ ba bn bc (by omega) (hB.at hb10)).mono ?_
      rintro e w31 ⟨t, cols, ub, un, uc, kb, kn, kc, rfl, hD, _, _, z31⟩
      have s32 := z31.size
      have hb32 := on hb10 z31
      replace iA := iA.below z31
      replace iB := iB.below z31
      obtain ⟨hT, _, _, hrl, _⟩ := hD
      obtain ⟨_, _, hun⟩ := rT_open9 (hT.rd reads_T)
      subst hun
      obtain ⟨w33, hw33⟩ : ∃ W, W = w31.alloc (.cells #[.string t.1, .int .i64 t.2.1, .slice ub t.2.2.length uc] 34) := ⟨_, rfl⟩
      have z33 : Below w31.heap.size w31 w33 := by rw [hw33]; exact (Below.refl _ _).alloc (Nat.le_refl _) _
      have s33 : w33.heap.size = w31.heap.size + 1 := by rw [hw33]; simp
      have hb33 := on hb32 z33
      replace iA := iA.below z33
      replace iB := iB.below z33
      replace hT := hT.below z33 (by omega)
      have X_0 : w33.cell? ⟨w31.heap.size, 0, none⟩ = some (.string t.1) := by rw [hw33]; exact box_cell (Below.refl _ _) rfl
      have X_1 : w33.cell? ⟨w31.heap.size, 1, none⟩ = some (.int .i64 t.2.1) := by rw [hw33]; exact box_cell (Below.refl _ _) rfl
      have X_2 : w33.cell? ⟨w31.heap.size, 2, none⟩ = some (.slice ub t.2.2.length uc) := by rw [hw33]; exact box_cell (Below.refl _ _) rfl
      have raw33_X_0 := X_0
      have raw33_X_1 := X_1
      have raw33_X_2 := X_2
      rw [hw33] at raw33_X_0 raw33_X_1 raw33_X_2
      go_wp2_with fail
      rw [← hw33]
      clear hw33
      clear raw33_X_0 raw33_X_1 raw33_X_2
      refine (fresh_any _ ba bn bc (hB.at hb33)).mono ?_
      rintro e w34 ⟨fb, fn, fc, rfl, hF, hfn, z34⟩
      have s35 := z34.size
      have hb35 := on hb33 z34
      replace iA := iA.below z34
      replace iB := iB.below z34
      replace hT := hT.below z34 (by omega)
      replace X_0 := (z34.cell (p := ⟨w31.heap.size, 0, none⟩) (by simp only []; omega)).trans X_0
      replace X_1 := (z34.cell (p := ⟨w31.heap.size, 1, none⟩) (by simp only []; omega)).trans X_1
      replace X_2 := (z34.cell (p := ⟨w31.heap.size, 2, none⟩) (by simp only []; omega)).trans X_2
      go_wp2_with fail
      refine (drawDegSeq_any _ fb fn fc (by omega) hF).mono ?_
      rintro e w36 ⟨u, cols2, vb, vn, vc, kb2, kn2, kc2, rfl, hD2, _, _, z36⟩
      have s37 := z36.size
      have hb37 := on hb35 z36
      replace iA := iA.below z36
      replace iB := iB.below z36
      replace hT := hT.below z36 (by omega)
      replace X_0 := (z36.cell (p := ⟨w31.heap.size, 0, none⟩) (by simp only []; omega)).trans X_0
      replace X_1 := (z36.cell (p := ⟨w31.heap.size, 1, none⟩) (by simp only []; omega)).trans X_1
      replace X_2 := (z36.cell (p := ⟨w31.heap.size, 2, none⟩) (by simp only []; omega)).trans X_2
      obtain ⟨hU, _, _, hrl2, _⟩ := hD2
      obtain ⟨_, _, hvn⟩ := rT_open9 (hU.rd reads_T)
      subst hvn
      clear hF
      obtain ⟨w38, hw38⟩ : ∃ W, W = w36.alloc (.cells #[.string u.1, .int .i64 u.2.1, .slice vb u.2.2.length vc] 34) := ⟨_, rfl⟩
      have z38 : Below w36.heap.size w36 w38 := by rw [hw38]; exact (Below.refl _ _).alloc (Nat.le_refl _) _
      have s38 : w38.heap.size = w36.heap.size + 1 := by rw [hw38]; simp
      have hb38 := on hb37 z38
      have old38_X_0 := X_0
      have old38_X_1 := X_1
      have old38_X_2 := X_2
      replace iA := iA.below z38
      replace iB := iB.below z38
      replace hT := hT.below z38 (by omega)
      replace X_0 := (z38.cell (p := ⟨w31.heap.size, 0, none⟩) (by simp only []; omega)).trans X_0
      replace X_1 := (z38.cell (p := ⟨w31.heap.size, 1, none⟩) (by simp only []; omega)).trans X_1
      replace X_2 := (z38.cell (p := ⟨w31.heap.size, 2, none⟩) (by simp only []; omega)).trans X_2
      replace hU := hU.below z38 (by omega)
      have U_0 : w38.cell? ⟨w36.heap.size, 0, none⟩ = some (.string u.1) := by rw [hw38]; exact box_cell (Below.refl _ _) rfl
      have U_1 : w38.cell? ⟨w36.heap.size, 1, none⟩ = some (.int .i64 u.2.1) := by rw [hw38]; exact box_cell (Below.refl _ _) rfl
      have U_2 : w38.cell? ⟨w36.heap.size, 2, none⟩ = some (.slice vb u.2.2.length vc) := by rw [hw38]; exact box_cell (Below.refl _ _) rfl
      have raw38_X_0 := X_0
      have raw38_X_1 := X_1
      have raw38_X_2 := X_2
      have raw38_U_0 := U_0
      have raw38_U_1 := U_1
      have raw38_U_2 := U_2
      rw [hw38] at raw38_X_0 raw38_X_1 raw38_X_2 raw38_U_0 raw38_U_1 raw38_U_2
      go_wp2_with fail
      rw [← hw38]
      clear hw38
      clear old38_X_0 old38_X_1 old38_X_2 raw38_X_0 raw38_X_1 raw38_X_2 raw38_U_0 raw38_U_1 raw38_U_2
      refine (validT_spec _ t _ (hT.rd reads_T)).mono ?_
      rintro e w39 ⟨rfl, z39⟩
      have s40 := z39.size
      have hb40 := on hb38 z39
      replace iA := iA.below z39
      replace iB := iB.below z39
      replace hT := hT.below z39 (by omega)
      replace X_0 := (z39.cell (p := ⟨w31.heap.size, 0, none⟩) (by simp only []; omega)).trans X_0
      replace X_1 := (z39.cell (p := ⟨w31.heap.size, 1, none⟩) (by simp only []; omega)).trans X_1
      replace X_2 := (z39.cell (p := ⟨w31.heap.size, 2, none⟩) (by simp only []; omega)).trans X_2
      replace hU := hU.below z39 (by omega)
      replace U_0 := (z39.cell (p := ⟨w36.heap.size, 0, none⟩) (by simp only []; omega)).trans U_0
      replace U_1 := (z39.cell (p := ⟨w36.heap.size, 1, none⟩) (by simp only []; omega)).trans U_1
      replace U_2 := (z39.cell (p := ⟨w36.heap.size, 2, none⟩) (by simp only []; omega)).trans U_2
      by_cases hvt : validT t = true
      · rw [hvt]
        go_wp2_with fail
        refine (validT_spec _ u _ (hU.rd reads_T)).mono ?_
        rintro e w41 ⟨rfl, z41⟩
        have s42 := z41.size
        have hb42 := on hb40 z41
        replace iA := iA.below z41
        replace iB := iB.below z41
        replace hT := hT.below z41 (by omega)
        replace X_0 := (z41.cell (p := ⟨w31.heap.size, 0, none⟩) (by simp only []; omega)).trans X_0
        replace X_1 := (z41.cell (p := ⟨w31.heap.size, 1, none⟩) (by simp only []; omega)).trans X_1
        replace X_2 := (z41.cell (p := ⟨w31.heap.size, 2, none⟩) (by simp only []; omega)).trans X_2
        replace hU := hU.below z41 (by omega)
        replace U_0 := (z41.cell (p := ⟨w36.heap.size, 0, none⟩) (by simp only []; omega)).trans U_0
        replace U_1 := (z41.cell (p := ⟨w36.heap.size, 1, none⟩) (by simp only []; omega)).trans U_1
        replace U_2 := (z41.cell (p := ⟨w36.heap.size, 2, none⟩) (by simp only []; omega)).trans U_2
        by_cases hvu : validT u = true
        · rw [hvu]
          go_wp2_with fail
          have HJB := Lib.hid (join_bound hvt hvu)
          have HVT := Lib.hid hvt
          have HVU := Lib.hid hvu
          have hlt8 := (TOk.of hvt).len
          have hlu8 := (TOk.of hvu).len
          obtain ⟨wq, rfl⟩ : ∃ W, W = w41 := ⟨_, rfl⟩
          have HTR := Lib.hid (fun W (hW : Below wq.heap.size wq W) => rT.mono (hT.rd reads_T) hW)
          have HUR := Lib.hid (fun W (hW : Below wq.heap.size wq W) => rT.mono (hU.rd reads_T) hW)
          have gT := rT_rows (hT.rd reads_T)
          have gU := rT_rows (hU.rd reads_T)
          have tT := rS_sl gT
          have tU := rS_sl gU
          clear gT gU hT hU hvt hvu
          go_loopw [11, 12] (fun s i wr => ∃ j S : Nat, j ≤ t.2.2.length ∧ i = .int .i64 (j : Int) ∧ s = .int .i64 (S : Int) ∧ S ≤ 10 * j ∧ Hid ((S : Int) = agree ((col0 t.2.2).take j) (col0 u.2.2)) ∧ Drew wq wr) (fun _ i _ => t.2.2.length - (intOf i).toNat)
          case atStart => exact ⟨0, 0, Nat.zero_le _, rfl, rfl, Nat.le_refl _, rfl, Drew.refl _⟩
          case round =>
            obtain ⟨j, S, hj, rfl, rfl, hS, HS, hdr⟩ := hrel
            obtain ⟨wo, rfl⟩ : ∃ W, W = wr := ⟨_, rfl⟩
            have x2 := (hdr.cell ⟨w31.heap.size, 2, none⟩).trans X_2
            have u2 := (hdr.cell ⟨w36.heap.size, 2, none⟩).trans U_2
            by_cases hlt : j < t.2.2.length
            · obtain ⟨b1, o1, r1, m1, q1, z1r, rfl, c1, hx1, i1, _, _⟩ := tT.row hlt
              have hl1 := valid_row HVT.out hx1.out
              rw [i1.len] at hl1
              obtain ⟨b2, o2, x0, rfl, c2, hx0, _, _⟩ := i1.get (k := 0) (by omega)
              rw [Nat.add_zero] at c2
              have d1 := (hdr.cell ⟨b1, o1 + j, none⟩).trans c1
              have d2 := (hdr.cell ⟨b2, o2, none⟩).trans c2
              have HST : Hid (agree ((col0 t.2.2).take (j + 1)) (col0 u.2.2) = (S : Int) + (cntRow [x0] (col0 u.2.2) : Int)) := Lib.hid (by rw [agree_step (col0_get hx1.out), hx0.out, ← HS.out])
              clear c1 c2 i1 hx1 hx0
              go_wp2_with fail
              go_loopw [11, 13] (fun s k wi => ∃ q Q : Nat, q ≤ u.2.2.length ∧ k = .int .i64 (q : Int) ∧ s = .int .i64 ((S + Q : Nat) : Int) ∧ Q ≤ q ∧ Hid (Q = cntRow [x0] ((col0 u.2.2).take q)) ∧ Drew wo wi) (fun _ k _ => u.2.2.length - (intOf k).toNat)
              case atStart => exact ⟨0, 0, Nat.zero_le _, rfl, rfl, Nat.le_refl _, rfl, Drew.refl _⟩
              case round =>
                obtain ⟨q, Q, hq, rfl, rfl, hQ, HQ, hdi⟩ := hrel
                have y2 := (hdi.cell ⟨w31.heap.size, 2, none⟩).trans x2
                have v2 := (hdi.cell ⟨w36.heap.size, 2, none⟩).trans u2
                by_cases hlq : q < u.2.2.length
                · obtain ⟨b3, o3, r3, m3, q3, z3r, rfl, c3, hx3, i3, _, _⟩ := tU.row hlq
                  have hl3 := valid_row HVU.out hx3.out
                  rw [i3.len] at hl3
                  obtain ⟨b4, o4, y0, rfl, c4, hy0, _, _⟩ := i3.get (k := 0) (by omega)
                  rw [Nat.add_zero] at c4
                  have e1 := (hdi.cell ⟨b1, o1 + j, none⟩).trans d1
                  have e2 := (hdi.cell ⟨b2, o2, none⟩).trans d2
                  have e3 := (hdi.cell ⟨b3, o3 + q, none⟩).trans ((hdr.cell ⟨b3, o3 + q, none⟩).trans c3)
                  have e4 := (hdi.cell ⟨b4, o4, none⟩).trans ((hdr.cell ⟨b4, o4, none⟩).trans c4)
                  have HQT : Hid (cntRow [x0] ((col0 u.2.2).take (q + 1)) = Q + (if x0 = y0 then 1 else 0)) := Lib.hid (by rw [cnt_step (y := y0) (by rw [col0_get hx3.out, hy0.out]), ← HQ.out])
                  clear c3 c4 i3 hx3 hy0 d1 d2
                  have hm1 : (0 : Int) < (m1 : Int) := by omega
                  have hm3 : (0 : Int) < (m3 : Int) := by omega
                  have hji : (j : Int) < (t.2.2.length : Int) := by omega
                  have hqi : (q : Int) < (u.2.2.length : Int) := by omega
                  by_cases hxy : x0 = y0
                  · subst hxy
                    go_wp2_with fail
                    go_quiet (fail)
                    go_wp2_with fail
                    go_roundw
                    case rel => exact ⟨q + 1, Q + 1, by omega, by go_num, by go_num, by omega, by rw [Hid, HQT.out]; simp, hdi.step _⟩
                    case measure => simp [intOf]; omega
                  · have hxe : (x0 == y0) = false := by rw [beq_eq_false_iff_ne]; exact hxy
                    go_wp2_with fail
                    go_quiet (fail)
                    go_wp2_with fail
                    go_roundw
                    case rel => exact ⟨q + 1, Q, by omega, by go_num, by go_num, by omega, by rw [Hid, HQT.out, if_neg hxy]; rfl, hdi.step _⟩
                    case measure => simp [intOf]; omega
                · obtain rfl : q = u.2.2.length := by omega
                  have hQE : Hid (((S + Q : Nat) : Int) = agree ((col0 t.2.2).take (j + 1)) (col0 u.2.2)) := Lib.hid (by
                    rw [HST.out, HQ.out, List.take_of_length_le (by rw [col0_len]; exact Nat.le_refl _)]; omega)
                  go_wp2_with fail
                  go_roundw
                  case rel => exact ⟨j + 1, S + Q, by omega, by go_num, by go_num, by omega, hQE.out, hdr.trans hdi⟩
                  case measure => simp [intOf]; omega
            · obtain rfl : j = t.2.2.length := by omega
              have HSE : Hid ((S : Int) ≤ pairBound (degSeq t [0]) (degSeq u [0])) := Lib.hid (by
                rw [HS.out, List.take_of_length_le (by rw [col0_len]; exact Nat.le_refl _)]; exact HJB.out)
              clear HJB x2 u2 HS
              have HJB := HSE
              clear HSE
              have hwo : Below wq.heap.size wq wo := hdr.below _
              replace hdr : Below wq.heap.size wq wo := hdr.below _
              have s43 := hdr.size
              have hb43 := on hb42 hdr
              replace iA := iA.below hdr
              replace iB := iB.below hdr
              replace X_0 := (hdr.cell (p := ⟨w31.heap.size, 0, none⟩) (by simp only []; omega)).trans X_0
              replace X_1 := (hdr.cell (p := ⟨w31.heap.size, 1, none⟩) (by simp only []; omega)).trans X_1
              replace X_2 := (hdr.cell (p := ⟨w31.heap.size, 2, none⟩) (by simp only []; omega)).trans X_2
              replace U_0 := (hdr.cell (p := ⟨w36.heap.size, 0, none⟩) (by simp only []; omega)).trans U_0
              replace U_1 := (hdr.cell (p := ⟨w36.heap.size, 1, none⟩) (by simp only []; omega)).trans U_1
              replace U_2 := (hdr.cell (p := ⟨w36.heap.size, 2, none⟩) (by simp only []; omega)).trans U_2
              go_wp2_with fail
              refine (drawRoot_any _ ba bn bc (by omega) (hB.at hb43)).mono ?_
              rintro e w44 ⟨x9, k9, rfl, hx9, hk9, z44⟩
              have s45 := z44.size
              have hb45 := on hb43 z44
              replace iA := iA.below z44
              replace iB := iB.below z44
              replace X_0 := (z44.cell (p := ⟨w31.heap.size, 0, none⟩) (by simp only []; omega)).trans X_0
              replace X_1 := (z44.cell (p := ⟨w31.heap.size, 1, none⟩) (by simp only []; omega)).trans X_1
              replace X_2 := (z44.cell (p := ⟨w31.heap.size, 2, none⟩) (by simp only []; omega)).trans X_2
              replace U_0 := (z44.cell (p := ⟨w36.heap.size, 0, none⟩) (by simp only []; omega)).trans U_0
              replace U_1 := (z44.cell (p := ⟨w36.heap.size, 1, none⟩) (by simp only []; omega)).trans U_1
              replace U_2 := (z44.cell (p := ⟨w36.heap.size, 2, none⟩) (by simp only []; omega)).trans U_2
              go_wp2_with fail
              refine (root_impl x9 k9 _).mono ?_
              rintro e w' ⟨rfl, rfl⟩
              obtain ⟨r9, hr9⟩ : ∃ q, rootOf x9 k9 = q := ⟨_, rfl⟩
              rw [hr9]
              have hqz := on hwo z44
              replace HTR := Lib.hid (fun W (hW : Below w44.heap.size w44 W) => HTR.out W (on hqz hW))
              replace HUR := Lib.hid (fun W (hW : Below w44.heap.size w44 W) => HUR.out W (on hqz hW))
              clear hqz tT tU hB
              obtain ⟨wz, rfl⟩ : ∃ W, W = w44 := ⟨_, rfl⟩
              go_wp2_with fail
              have hdr : Below wz.heap.size wz wz.drew := (Below.refl _ _).drew
              refine wp_region_noPanic ?_
              refine wp_region_held_drew (S := (fun W => Below wz.heap.size wz W)) (by kernel_rfl) ?hS9 (fun hHeld => ?_)
              case hS9 => exact hdr
              refine wpAnyH_take (i := 0) (v := ?v0_59) rfl (by kernel_rfl) (by kernel_rfl) (by kernel_rfl) (fun _ _ _ h => h) (Or.inl ⟨by rfl, ?hy0_59⟩) (by assumption) ?rest0_59
              case hy0_59 => intro w hSw; (try dsimp only at hSw); go_simp; (try with_reducible rfl)
              try simp only [Act.put, List.getElem_toArray, List.getElem_cons_succ, List.getElem_cons_zero, List.setIfInBounds_toArray, List.set_cons_zero, List.set_cons_succ]
              refine wpAnyH_take (i := 1) (v := ?v1_60) rfl (by kernel_rfl) (by kernel_rfl) (by kernel_rfl) (fun _ _ _ h => h) (Or.inl ⟨by rfl, ?hy1_60⟩) (by assumption) ?rest1_60
              case hy1_60 => intro w hSw; (try dsimp only at hSw); have q_X_0 := (hSw.cell (p := ⟨w31.heap.size, 0, none⟩) (by first | exact cell_lt X_0 | (simp only []; omega))).trans X_0; have q_X_1 := (hSw.cell (p := ⟨w31.heap.size, 1, none⟩) (by first | exact cell_lt X_1 | (simp only []; omega))).trans X_1; have q_X_2 := (hSw.cell (p := ⟨w31.heap.size, 2, none⟩) (by first | exact cell_lt X_2 | (simp only []; omega))).trans X_2; go_simp; (try with_reducible rfl)
              try simp only [Act.put, List.getElem_toArray, List.getElem_cons_succ, List.getElem_cons_zero, List.setIfInBounds_toArray, List.set_cons_zero, List.set_cons_succ]
              refine wpAnyH_take (i := 4) (v := ?v4_61) rfl (by kernel_rfl) (by kernel_rfl) (by kernel_rfl) (fun _ _ _ h => h) (Or.inl ⟨by rfl, ?hy4_61⟩) (by assumption) ?rest4_61
              case hy4_61 => intro w hSw; (try dsimp only at hSw); have q_U_0 := (hSw.cell (p := ⟨w36.heap.size, 0, none⟩) (by first | exact cell_lt U_0 | (simp only []; omega))).trans U_0; have q_U_1 := (hSw.cell (p := ⟨w36.heap.size, 1, none⟩) (by first | exact cell_lt U_1 | (simp only []; omega))).trans U_1; have q_U_2 := (hSw.cell (p := ⟨w36.heap.size, 2, none⟩) (by first | exact cell_lt U_2 | (simp only []; omega))).trans U_2; go_simp; (try with_reducible rfl)
              try simp only [Act.put, List.getElem_toArray, List.getElem_cons_succ, List.getElem_cons_zero, List.setIfInBounds_toArray, List.set_cons_zero, List.set_cons_succ]
              refine wpAnyH_ready (rs := [2, 5]) (by kernel_rfl) (by simp) ?_
              refine AllReadyH.cons rfl (fun K9 hK9 => ?_) (AllReadyH.cons rfl (fun K9 hK9 => ?_) AllReadyH.nil)
              · skip
                go_simp
                have oL1 : Own oI wz.heap.size (wz.heap.size + 1) ((wz.alloc (.cells #[.int .i64 0] 3)).drew) [.slice (some ⟨wz.heap.size, 0, none⟩) 1 1] [0] := (own_lit1 (W := wz) (by constructor <;> decide)).below ((Below.refl _ _).drew) (Nat.le_refl _)
                obtain ⟨wv62, hw62⟩ : ∃ W, W = (wz.alloc (.cells #[.int .i64 0] 3)).drew := ⟨_, rfl⟩
                rw [← hw62] at oL1 ⊢
                have zv62 : Below wz.heap.size wz wv62 := by rw [hw62]; exact ((Below.refl _ _).alloc (Nat.le_refl _) _).drew
                have sv62 : wv62.heap.size = wz.heap.size + 1 := by rw [hw62]; simp
                replace sv62 := Nat.le_of_eq sv62.symm
                clear hw62
                have hv62 := zv62
                refine hK9.out _ _ ?_ (fun hHeld => ?_)
                · exact hv62
                clear hK9 K9
                try simp only [Act.put, List.getElem_toArray, List.getElem_cons_succ, List.getElem_cons_zero, List.setIfInBounds_toArray, List.set_cons_zero, List.set_cons_succ]
                refine wpAnyH_ready (rs := [3, 5]) (by kernel_rfl) (by simp) ?_
                refine AllReadyH.cons rfl (fun K9 hK9 => ?_) (AllReadyH.cons rfl (fun K9 hK9 => ?_) AllReadyH.nil)
                · skip
                  go_simp
                  refine (degSeq_spec _ _ t [0] _ (HTR.out _ hv62) (oL1.rd reads_I)).mono ?_
                  rintro e wv63 ⟨db63, dn63, dc63, rfl, oD1, zv63⟩
                  have sv63 := zv63.size
                  replace oL1 := oL1.below zv63 (by omega)
                  have hv63 := on hv62 zv63
                  refine hK9.out _ _ ?_ (fun hHeld => ?_)
                  · exact hv63
                  clear hK9 K9
                  try simp only [Act.put, List.getElem_toArray, List.getElem_cons_succ, List.getElem_cons_zero, List.setIfInBounds_toArray, List.set_cons_zero, List.set_cons_succ]
                  refine wpAnyH_ready (rs := [5]) (by kernel_rfl) (by simp) ?_
                  refine AllReadyH.cons rfl (fun K9 hK9 => ?_) AllReadyH.nil
                  go_simp
                  have oL2 : Own oI wv63.heap.size (wv63.heap.size + 1) (wv63.alloc (.cells #[.int .i64 0] 3)) [.slice (some ⟨wv63.heap.size, 0, none⟩) 1 1] [0] := own_lit1 (W := wv63) (by constructor <;> decide)
                  obtain ⟨wv64, hw64⟩ : ∃ W, W = wv63.alloc (.cells #[.int .i64 0] 3) := ⟨_, rfl⟩
                  rw [← hw64] at oL2 ⊢
                  have zv64 : Below wv63.heap.size wv63 wv64 := by rw [hw64]; exact (Below.refl _ _).alloc (Nat.le_refl _) _
                  have sv64 : wv64.heap.size = wv63.heap.size + 1 := by rw [hw64]; simp
                  replace sv64 := Nat.le_of_eq sv64.symm
                  clear hw64
                  replace oD1 := oD1.below zv64 (by omega)
                  replace oL1 := oL1.below zv64 (by omega)
                  have hv64 := on hv63 zv64
                  refine hK9.out _ _ ?_ (fun hHeld => ?_)
                  · exact hv64
                  clear hK9 K9
                  try simp only [Act.put, List.getElem_toArray, List.getElem_cons_succ, List.getElem_cons_zero, List.setIfInBounds_toArray, List.set_cons_zero, List.set_cons_succ]
                  refine wpAnyH_ready (rs := [6]) (by kernel_rfl) (by simp) ?_
                  refine AllReadyH.cons rfl (fun K9 hK9 => ?_) AllReadyH.nil
                  go_simp
                  refine (degSeq_spec _ _ u [0] _ (HUR.out _ hv64) (oL2.rd reads_I)).mono ?_
                  rintro e wv65 ⟨db65, dn65, dc65, rfl, oD2, zv65⟩
                  have sv65 := zv65.size
                  replace oD1 := oD1.below zv65 (by omega)
                  replace oL1 := oL1.below zv65 (by omega)
                  replace oL2 := oL2.below zv65 (by omega)
                  have hv65 := on hv64 zv65
                  refine hK9.out _ _ ?_ (fun hHeld => ?_)
                  · exact hv65
                  clear hK9 K9
                  try simp only [Act.put, List.getElem_toArray, List.getElem_cons_succ, List.getElem_cons_zero, List.setIfInBounds_toArray, List.set_cons_zero, List.set_cons_succ]
                  refine wpAnyH_ready (rs := [7]) (by kernel_rfl) (by simp) ?_
                  refine AllReadyH.cons rfl (fun K9 hK9 => ?_) AllReadyH.nil
                  go_simp
                  refine (pairBound_impl _ _ _ _ _ _ _ _ _ (rI_open9 (oD1.rd reads_I)).2.2.2 (rI_open9 (oD2.rd reads_I)).2.2.2).mono ?_
                  rintro e wP ⟨rfl, zP0⟩
                  have zP := zP0.below wv65.heap.size
                  have hbP := on hv65 zP
                  obtain ⟨PB, hPB⟩ : ∃ q, pairBound (degSeq t [0]) (degSeq u [0]) = q := ⟨_, rfl⟩
                  have hle := HJB.out
                  rw [hPB] at hle
                  rw [hPB]
                  clear hPB zP0
                  refine hK9.out _ _ ?_ (fun hHeld => ?_)
                  · exact hbP
                  clear hK9 K9
                  try simp only [Act.put, List.getElem_toArray, List.getElem_cons_succ, List.getElem_cons_zero, List.setIfInBounds_toArray, List.set_cons_zero, List.set_cons_succ]
                  refine wpAnyH_take (i := 8) (v := ?v8_66) rfl (by kernel_rfl) (by kernel_rfl) (by kernel_rfl) (fun _ _ _ h => h) (Or.inl ⟨by rfl, ?hy8_66⟩) (by assumption) ?rest8_66
                  case hy8_66 => intro w hSw; (try dsimp only at hSw); go_simp; (try with_reducible rfl)
                  try simp only [Act.put, List.getElem_toArray, List.getElem_cons_succ, List.getElem_cons_zero, List.setIfInBounds_toArray, List.set_cons_zero, List.set_cons_succ]
                  refine wpAnyH_take (i := 9) (v := ?v9_67) rfl (by kernel_rfl) (by kernel_rfl) (by kernel_rfl) (fun _ _ _ h => h) (Or.inl ⟨by rfl, ?hy9_67⟩) (by assumption) ?rest9_67
                  case hy9_67 => intro w hSw; (try dsimp only at hSw); go_simp; (try with_reducible rfl)
                  try simp only [Act.put, List.getElem_toArray, List.getElem_cons_succ, List.getElem_cons_zero, List.setIfInBounds_toArray, List.set_cons_zero, List.set_cons_succ]
                  refine wpAnyH_take (i := 10) (v := ?v10_68) rfl (by kernel_rfl) (by kernel_rfl) (by kernel_rfl) (fun _ _ _ h => h) (Or.inl ⟨by rfl, ?hy10_68⟩) (by assumption) ?rest10_68
                  case hy10_68 => intro w hSw; (try dsimp only at hSw); go_simp; (try with_reducible rfl)
                  try simp only [Act.put, List.getElem_toArray, List.getElem_cons_succ, List.getElem_cons_zero, List.setIfInBounds_toArray, List.set_cons_zero, List.set_cons_succ]
                  refine wpAnyH_take (i := 11) (v := ?v11_69) rfl (by kernel_rfl) (by kernel_rfl) (by kernel_rfl) (fun _ _ _ h => h) (Or.inl ⟨by rfl, ?hy11_69⟩) (by assumption) ?rest11_69
                  case hy11_69 => intro w hSw; (try dsimp only at hSw); go_simp; (try with_reducible rfl)
                  try simp only [Act.put, List.getElem_toArray, List.getElem_cons_succ, List.getElem_cons_zero, List.setIfInBounds_toArray, List.set_cons_zero, List.set_cons_succ]
                  refine wpAnyH_take (i := 12) (v := ?v12_70) rfl (by kernel_rfl) (by kernel_rfl) (by kernel_rfl) (fun _ _ _ h => h) (Or.inl ⟨by rfl, ?hy12_70⟩) (by assumption) ?rest12_70
                  case hy12_70 => intro w hSw; (try dsimp only at hSw); go_simp; (try with_reducible rfl)
                  try simp only [Act.put, List.getElem_toArray, List.getElem_cons_succ, List.getElem_cons_zero, List.setIfInBounds_toArray, List.set_cons_zero, List.set_cons_succ]
                  refine wpAnyH_ready (rs := [13]) (by kernel_rfl) (by simp) ?_
                  refine AllReadyH.cons rfl (fun K9 hK9 => ?_) AllReadyH.nil
                  go_simp
                  refine (root_spec _ _ _).mono ?_
                  rintro e wR ⟨rfl, e9⟩
                  rw [hr9]
                  have hbR : Below wz.heap.size wz wR := by rw [← e9]; exact hbP
                  clear e9
                  refine hK9.out _ _ ?_ (fun hHeld => ?_)
                  · exact hbR
                  clear hK9 K9
                  try simp only [Act.put, List.getElem_toArray, List.getElem_cons_succ, List.getElem_cons_zero, List.setIfInBounds_toArray, List.set_cons_zero, List.set_cons_succ]
                  refine wpAnyH_take (i := 14) (v := ?v14_71) rfl (by kernel_rfl) (by kernel_rfl) (by kernel_rfl) (fun _ _ _ h => h) (Or.inl ⟨by rfl, ?hy14_71⟩) (by assumption) ?rest14_71
                  case hy14_71 => intro w hSw; (try dsimp only at hSw); go_simp; (try with_reducible rfl)
                  try simp only [Act.put, List.getElem_toArray, List.getElem_cons_succ, List.getElem_cons_zero, List.setIfInBounds_toArray, List.set_cons_zero, List.set_cons_succ]
                  refine wpAnyH_take (i := 15) (v := ?v15_72) rfl (by kernel_rfl) (by kernel_rfl) (by kernel_rfl) (fun _ _ _ h => h) (Or.inl ⟨by rfl, ?hy15_72⟩) (by assumption) ?rest15_72
                  case hy15_72 => intro w hSw; (try dsimp only at hSw); go_simp; (try with_reducible rfl)
                  try simp only [Act.put, List.getElem_toArray, List.getElem_cons_succ, List.getElem_cons_zero, List.setIfInBounds_toArray, List.set_cons_zero, List.set_cons_succ]
                  refine wpAnyH_take (i := 16) (v := ?v16_73) rfl (by kernel_rfl) (by kernel_rfl) (by kernel_rfl) (fun _ _ _ h => h) (Or.inl ⟨by rfl, ?hy16_73⟩) (by assumption) ?rest16_73
                  case hy16_73 => intro w hSw; (try dsimp only at hSw); go_simp; (try with_reducible rfl)
                  try simp only [Act.put, List.getElem_toArray, List.getElem_cons_succ, List.getElem_cons_zero, List.setIfInBounds_toArray, List.set_cons_zero, List.set_cons_succ]
                  refine wpAnyH_take (i := 17) (v := ?v17_74) rfl (by kernel_rfl) (by kernel_rfl) (by kernel_rfl) (fun _ _ _ h => h) (Or.inl ⟨by rfl, ?hy17_74⟩) (by assumption) ?rest17_74
                  case hy17_74 => intro w hSw; (try dsimp only at hSw); go_simp; (try with_reducible rfl)
                  try simp only [Act.put, List.getElem_toArray, List.getElem_cons_succ, List.getElem_cons_zero, List.setIfInBounds_toArray, List.set_cons_zero, List.set_cons_succ]
                  refine wpAnyH_take (i := 19) (v := ?v19_75) rfl (by kernel_rfl) (by kernel_rfl) (by kernel_rfl) (fun _ _ _ h => h) (Or.inl ⟨by rfl, ?hy19_75⟩) (by assumption) ?rest19_75
                  case hy19_75 => intro w hSw; (try dsimp only at hSw); go_simp; (try with_reducible rfl)
                  try simp only [Act.put, List.getElem_toArray, List.getElem_cons_succ, List.getElem_cons_zero, List.setIfInBounds_toArray, List.set_cons_zero, List.set_cons_succ]
                  refine wpAnyH_ready (rs := [18]) (by kernel_rfl) (by simp) ?_
                  refine AllReadyH.cons rfl (fun K9 hK9 => ?_) AllReadyH.nil
                  go_simp
                  refine (norm_impl _ _ _ xs 1 _ (iA.below hbR)).mono ?_
                  rintro e wN ⟨rfl, e9⟩
                  rw [HNT.out]
                  have hbN : Below wz.heap.size wz wN := by rw [← e9]; exact hbR
                  clear e9
                  refine hK9.out _ _ ?_ (fun hHeld => ?_)
                  · exact hbN
                  clear hK9 K9
                  try simp only [Act.put, List.getElem_toArray, List.getElem_cons_succ, List.getElem_cons_zero, List.setIfInBounds_toArray, List.set_cons_zero, List.set_cons_succ]
                  refine wpAnyH_ready (rs := [20]) (by kernel_rfl) (by simp) ?_
                  refine AllReadyH.cons rfl (fun K9 hK9 => ?_) AllReadyH.nil
                  go_simp
                  refine (seqTotal_impl _ _ _ xs _ (iA.below hbN)).mono ?_
                  rintro e wM ⟨rfl, e9⟩
                  have hbM : Below wz.heap.size wz wM := by rw [← e9]; exact hbN
                  clear e9
                  refine hK9.out _ _ ?_ (fun hHeld => ?_)
                  · exact hbM
                  clear hK9 K9
                  try simp only [Act.put, List.getElem_toArray, List.getElem_cons_succ, List.getElem_cons_zero, List.setIfInBounds_toArray, List.set_cons_zero, List.set_cons_succ]
                  refine wpAnyH_take (i := 21) (v := ?v21_76) rfl (by kernel_rfl) (by kernel_rfl) (by kernel_rfl) (fun _ _ _ h => h) (Or.inl ⟨by rfl, ?hy21_76⟩) (by assumption) ?rest21_76
                  case hy21_76 => intro w hSw; (try dsimp only at hSw); go_simp; (try with_reducible rfl)
                  try simp only [Act.put, List.getElem_toArray, List.getElem_cons_succ, List.getElem_cons_zero, List.setIfInBounds_toArray, List.set_cons_zero, List.set_cons_succ]
                  refine wpAnyH_take (i := 22) (v := ?v22_77) rfl (by kernel_rfl) (by kernel_rfl) (by kernel_rfl) (fun _ _ _ h => h) (Or.inl ⟨by rfl, ?hy22_77⟩) (by assumption) ?rest22_77
                  case hy22_77 => intro w hSw; (try dsimp only at hSw); go_simp; (try with_reducible rfl)
                  try simp only [Act.put, List.getElem_toArray, List.getElem_cons_succ, List.getElem_cons_zero, List.setIfInBounds_toArray, List.set_cons_zero, List.set_cons_succ]
                  refine wpAnyH_take (i := 23) (v := ?v23_78) rfl (by kernel_rfl) (by kernel_rfl) (by kernel_rfl) (fun _ _ _ h => h) (Or.inl ⟨by rfl, ?hy23_78⟩) (by assumption) ?rest23_78
                  case hy23_78 => intro w hSw; (try dsimp only at hSw); go_simp; (try with_reducible rfl)
                  try simp only [Act.put, List.getElem_toArray, List.getElem_cons_succ, List.getElem_cons_zero, List.setIfInBounds_toArray, List.set_cons_zero, List.set_cons_succ]
                  refine wpAnyH_done (by kernel_rfl) ?_ _
                  refine NoPanic.normal ?_
                  go_wp2_with fail
                  go_ret
                  exact ⟨ret_bool (by simp), hb45.trans (hbM.mono (by omega))⟩
                · skip
                  go_simp
                  have oL2 : Own oI wv62.heap.size (wv62.heap.size + 1) (wv62.alloc (.cells #[.int .i64 0] 3)) [.slice (some ⟨wv62.heap.size, 0, none⟩) 1 1] [0] := own_lit1 (W := wv62) (by constructor <;> decide)
                  obtain ⟨wv79, hw79⟩ : ∃ W, W = wv62.alloc (.cells #[.int .i64 0] 3) := ⟨_, rfl⟩
                  rw [← hw79] at oL2 ⊢
                  have zv79 : Below wv62.heap.size wv62 wv79 := by rw [hw79]; exact (Below.refl _ _).alloc (Nat.le_refl _) _
                  have sv79 : wv79.heap.size = wv62.heap.size + 1 := by rw [hw79]; simp
                  replace sv79 := Nat.le_of_eq sv79.symm
                  clear hw79
                  replace oL1 := oL1.below zv79 (by omega)
                  have hv79 := on hv62 zv79
                  refine hK9.out _ _ ?_ (fun hHeld => ?_)
                  · exact hv79
                  clear hK9 K9
                  try simp only [Act.put, List.getElem_toArray, List.getElem_cons_succ, List.getElem_cons_zero, List.setIfInBounds_toArray, List.set_cons_zero, List.set_cons_succ]
                  refine wpAnyH_ready (rs := [3]) (by kernel_rfl) (by simp) ?_
                  refine AllReadyH.cons rfl (fun K9 hK9 => ?_) AllReadyH.nil
                  go_simp
                  refine (degSeq_spec _ _ t [0] _ (HTR.out _ hv79) (oL1.rd reads_I)).mono ?_
                  rintro e wv80 ⟨db80, dn80, dc80, rfl, oD1, zv80⟩
                  have sv80 := zv80.size
                  replace oL1 := oL1.below zv80 (by omega)
                  replace oL2 := oL2.below zv80 (by omega)
                  have hv80 := on hv79 zv80
                  refine hK9.out _ _ ?_ (fun hHeld => ?_)
                  · exact hv80
                  clear hK9 K9
                  try simp only [Act.put, List.getElem_toArray, List.getElem_cons_succ, List.getElem_cons_zero, List.setIfInBounds_toArray, List.set_cons_zero, List.set_cons_succ]
                  refine wpAnyH_ready (rs := [6]) (by kernel_rfl) (by simp) ?_
                  refine AllReadyH.cons rfl (fun K9 hK9 => ?_) AllReadyH.nil
                  go_simp
                  refine (degSeq_spec _ _ u [0] _ (HUR.out _ hv80) (oL2.rd reads_I)).mono ?_
                  rintro e wv81 ⟨db81, dn81, dc81, rfl, oD2, zv81⟩
                  have sv81 := zv81.size
                  replace oD1 := oD1.below zv81 (by omega)
                  replace oL1 := oL1.below zv81 (by omega)
                  replace oL2 := oL2.below zv81 (by omega)
                  have hv81 := on hv80 zv81
                  refine hK9.out _ _ ?_ (fun hHeld => ?_)
                  · exact hv81
                  clear hK9 K9
                  try simp only [Act.put, List.getElem_toArray, List.getElem_cons_succ, List.getElem_cons_zero, List.setIfInBounds_toArray, List.set_cons_zero, List.set_cons_succ]
                  refine wpAnyH_ready (rs := [7]) (by kernel_rfl) (by simp) ?_
                  refine AllReadyH.cons rfl (fun K9 hK9 => ?_) AllReadyH.nil
                  go_simp
                  refine (pairBound_impl _ _ _ _ _ _ _ _ _ (rI_open9 (oD1.rd reads_I)).2.2.2 (rI_open9 (oD2.rd reads_I)).2.2.2).mono ?_
                  rintro e wP ⟨rfl, zP0⟩
                  have zP := zP0.below wv81.heap.size
                  have hbP := on hv81 zP
                  obtain ⟨PB, hPB⟩ : ∃ q, pairBound (degSeq t [0]) (degSeq u [0]) = q := ⟨_, rfl⟩
                  have hle := HJB.out
                  rw [hPB] at hle
                  rw [hPB]
                  clear hPB zP0
                  refine hK9.out _ _ ?_ (fun hHeld => ?_)
                  · exact hbP
                  clear hK9 K9
                  try simp only [Act.put, List.getElem_toArray, List.getElem_cons_succ, List.getElem_cons_zero, List.setIfInBounds_toArray, List.set_cons_zero, List.set_cons_succ]
                  refine wpAnyH_take (i := 8) (v := ?v8_82) rfl (by kernel_rfl) (by kernel_rfl) (by kernel_rfl) (fun _ _ _ h => h) (Or.inl ⟨by rfl, ?hy8_82⟩) (by assumption) ?rest8_82
                  case hy8_82 => intro w hSw; (try dsimp only at hSw); go_simp; (try with_reducible rfl)
                  try simp only [Act.put, List.getElem_toArray, List.getElem_cons_succ, List.getElem_cons_zero, List.setIfInBounds_toArray, List.set_cons_zero, List.set_cons_succ]
                  refine wpAnyH_take (i := 9) (v := ?v9_83) rfl (by kernel_rfl) (by kernel_rfl) (by kernel_rfl) (fun _ _ _ h => h) (Or.inl ⟨by rfl, ?hy9_83⟩) (by assumption) ?rest9_83
                  case hy9_83 => intro w hSw; (try dsimp only at hSw); go_simp; (try with_reducible rfl)
                  try simp only [Act.put, List.getElem_toArray, List.getElem_cons_succ, List.getElem_cons_zero, List.setIfInBounds_toArray, List.set_cons_zero, List.set_cons_succ]
                  refine wpAnyH_take (i := 10) (v := ?v10_84) rfl (by kernel_rfl) (by kernel_rfl) (by kernel_rfl) (fun _ _ _ h => h) (Or.inl ⟨by rfl, ?hy10_84⟩) (by assumption) ?rest10_84
                  case hy10_84 => intro w hSw; (try dsimp only at hSw); go_simp; (try with_reducible rfl)
                  try simp only [Act.put, List.getElem_toArray, List.getElem_cons_succ, List.getElem_cons_zero, List.setIfInBounds_toArray, List.set_cons_zero, List.set_cons_succ]
                  refine wpAnyH_take (i := 11) (v := ?v11_85) rfl (by kernel_rfl) (by kernel_rfl) (by kernel_rfl) (fun _ _ _ h => h) (Or.inl ⟨by rfl, ?hy11_85⟩) (by assumption) ?rest11_85
                  case hy11_85 => intro w hSw; (try dsimp only at hSw); go_simp; (try with_reducible rfl)
                  try simp only [Act.put, List.getElem_toArray, List.getElem_cons_succ, List.getElem_cons_zero, List.setIfInBounds_toArray, List.set_cons_zero, List.set_cons_succ]
                  refine wpAnyH_take (i := 12) (v := ?v12_86) rfl (by kernel_rfl) (by kernel_rfl) (by kernel_rfl) (fun _ _ _ h => h) (Or.inl ⟨by rfl, ?hy12_86⟩) (by assumption) ?rest12_86
                  case hy12_86 => intro w hSw; (try dsimp only at hSw); go_simp; (try with_reducible rfl)
                  try simp only [Act.put, List.getElem_toArray, List.getElem_cons_succ, List.getElem_cons_zero, List.setIfInBounds_toArray, List.set_cons_zero, List.set_cons_succ]
                  refine wpAnyH_ready (rs := [13]) (by kernel_rfl) (by simp) ?_
                  refine AllReadyH.cons rfl (fun K9 hK9 => ?_) AllReadyH.nil
                  go_simp
                  refine (root_spec _ _ _).mono ?_
                  rintro e wR ⟨rfl, e9⟩
                  rw [hr9]
                  have hbR : Below wz.heap.size wz wR := by rw [← e9]; exact hbP
                  clear e9
                  refine hK9.out _ _ ?_ (fun hHeld => ?_)
                  · exact hbR
                  clear hK9 K9
                  try simp only [Act.put, List.getElem_toArray, List.getElem_cons_succ, List.getElem_cons_zero, List.setIfInBounds_toArray, List.set_cons_zero, List.set_cons_succ]
                  refine wpAnyH_take (i := 14) (v := ?v14_87) rfl (by kernel_rfl) (by kernel_rfl) (by kernel_rfl) (fun _ _ _ h => h) (Or.inl ⟨by rfl, ?hy14_87⟩) (by assumption) ?rest14_87
                  case hy14_87 => intro w hSw; (try dsimp only at hSw); go_simp; (try with_reducible rfl)
                  try simp only [Act.put, List.getElem_toArray, List.getElem_cons_succ, List.getElem_cons_zero, List.setIfInBounds_toArray, List.set_cons_zero, List.set_cons_succ]
                  refine wpAnyH_take (i := 15) (v := ?v15_88) rfl (by kernel_rfl) (by kernel_rfl) (by kernel_rfl) (fun _ _ _ h => h) (Or.inl ⟨by rfl, ?hy15_88⟩) (by assumption) ?rest15_88
                  case hy15_88 => intro w hSw; (try dsimp only at hSw); go_simp; (try with_reducible rfl)
                  try simp only [Act.put, List.getElem_toArray, List.getElem_cons_succ, List.getElem_cons_zero, List.setIfInBounds_toArray, List.set_cons_zero, List.set_cons_succ]
                  refine wpAnyH_take (i := 16) (v := ?v16_89) rfl (by kernel_rfl) (by kernel_rfl) (by kernel_rfl) (fun _ _ _ h => h) (Or.inl ⟨by rfl, ?hy16_89⟩) (by assumption) ?rest16_89
                  case hy16_89 => intro w hSw; (try dsimp only at hSw); go_simp; (try with_reducible rfl)
                  try simp only [Act.put, List.getElem_toArray, List.getElem_cons_succ, List.getElem_cons_zero, List.setIfInBounds_toArray, List.set_cons_zero, List.set_cons_succ]
                  refine wpAnyH_take (i := 17) (v := ?v17_90) rfl (by kernel_rfl) (by kernel_rfl) (by kernel_rfl) (fun _ _ _ h => h) (Or.inl ⟨by rfl, ?hy17_90⟩) (by assumption) ?rest17_90
                  case hy17_90 => intro w hSw; (try dsimp only at hSw); go_simp; (try with_reducible rfl)
                  try simp only [Act.put, List.getElem_toArray, List.getElem_cons_succ, List.getElem_cons_zero, List.setIfInBounds_toArray, List.set_cons_zero, List.set_cons_succ]
                  refine wpAnyH_take (i := 19) (v := ?v19_91) rfl (by kernel_rfl) (by kernel_rfl) (by kernel_rfl) (fun _ _ _ h => h) (Or.inl ⟨by rfl, ?hy19_91⟩) (by assumption) ?rest19_91
                  case hy19_91 => intro w hSw; (try dsimp only at hSw); go_simp; (try with_reducible rfl)
                  try simp only [Act.put, List.getElem_toArray, List.getElem_cons_succ, List.getElem_cons_zero, List.setIfInBounds_toArray, List.set_cons_zero, List.set_cons_succ]
                  refine wpAnyH_ready (rs := [18]) (by kernel_rfl) (by simp) ?_
                  refine AllReadyH.cons rfl (fun K9 hK9 => ?_) AllReadyH.nil
                  go_simp
                  refine (norm_impl _ _ _ xs 1 _ (iA.below hbR)).mono ?_
                  rintro e wN ⟨rfl, e9⟩
                  rw [HNT.out]
                  have hbN : Below wz.heap.size wz wN := by rw [← e9]; exact hbR
                  clear e9
                  refine hK9.out _ _ ?_ (fun hHeld => ?_)
                  · exact hbN
                  clear hK9 K9
                  try simp only [Act.put, List.getElem_toArray, List.getElem_cons_succ, List.getElem_cons_zero, List.setIfInBounds_toArray, List.set_cons_zero, List.set_cons_succ]
                  refine wpAnyH_ready (rs := [20]) (by kernel_rfl) (by simp) ?_
                  refine AllReadyH.cons rfl (fun K9 hK9 => ?_) AllReadyH.nil
                  go_simp
                  refine (seqTotal_impl _ _ _ xs _ (iA.below hbN)).mono ?_
                  rintro e wM ⟨rfl, e9⟩
                  have hbM : Below wz.heap.size wz wM := by rw [← e9]; exact hbN
                  clear e9
                  refine hK9.out _ _ ?_ (fun hHeld => ?_)
                  · exact hbM
                  clear hK9 K9
                  try simp only [Act.put, List.getElem_toArray, List.getElem_cons_succ, List.getElem_cons_zero, List.setIfInBounds_toArray, List.set_cons_zero, List.set_cons_succ]
                  refine wpAnyH_take (i := 21) (v := ?v21_92) rfl (by kernel_rfl) (by kernel_rfl) (by kernel_rfl) (fun _ _ _ h => h) (Or.inl ⟨by rfl, ?hy21_92⟩) (by assumption) ?rest21_92
                  case hy21_92 => intro w hSw; (try dsimp only at hSw); go_simp; (try with_reducible rfl)
                  try simp only [Act.put, List.getElem_toArray, List.getElem_cons_succ, List.getElem_cons_zero, List.setIfInBounds_toArray, List.set_cons_zero, List.set_cons_succ]
                  refine wpAnyH_take (i := 22) (v := ?v22_93) rfl (by kernel_rfl) (by kernel_rfl) (by kernel_rfl) (fun _ _ _ h => h) (Or.inl ⟨by rfl, ?hy22_93⟩) (by assumption) ?rest22_93
                  case hy22_93 => intro w hSw; (try dsimp only at hSw); go_simp; (try with_reducible rfl)
                  try simp only [Act.put, List.getElem_toArray, List.getElem_cons_succ, List.getElem_cons_zero, List.setIfInBounds_toArray, List.set_cons_zero, List.set_cons_succ]
                  refine wpAnyH_take (i := 23) (v := ?v23_94) rfl (by kernel_rfl) (by kernel_rfl) (by kernel_rfl) (fun _ _ _ h => h) (Or.inl ⟨by rfl, ?hy23_94⟩) (by assumption) ?rest23_94
                  case hy23_94 => intro w hSw; (try dsimp only at hSw); go_simp; (try with_reducible rfl)
                  try simp only [Act.put, List.getElem_toArray, List.getElem_cons_succ, List.getElem_cons_zero, List.setIfInBounds_toArray, List.set_cons_zero, List.set_cons_succ]
                  refine wpAnyH_done (by kernel_rfl) ?_ _
                  refine NoPanic.normal ?_
                  go_wp2_with fail
                  go_ret
                  exact ⟨ret_bool (by simp), hb45.trans (hbM.mono (by omega))⟩
              · skip
                go_simp
                have oL2 : Own oI wz.heap.size (wz.heap.size + 1) ((wz.alloc (.cells #[.int .i64 0] 3)).drew) [.slice (some ⟨wz.heap.size, 0, none⟩) 1 1] [0] := (own_lit1 (W := wz) (by constructor <;> decide)).below ((Below.refl _ _).drew) (Nat.le_refl _)
                obtain ⟨wv95, hw95⟩ : ∃ W, W = (wz.alloc (.cells #[.int .i64 0] 3)).drew := ⟨_, rfl⟩
                rw [← hw95] at oL2 ⊢
                have zv95 : Below wz.heap.size wz wv95 := by rw [hw95]; exact ((Below.refl _ _).alloc (Nat.le_refl _) _).drew
                have sv95 : wv95.heap.size = wz.heap.size + 1 := by rw [hw95]; simp
                replace sv95 := Nat.le_of_eq sv95.symm
                clear hw95
                have hv95 := zv95
                refine hK9.out _ _ ?_ (fun hHeld => ?_)
                · exact hv95
                clear hK9 K9
                try simp only [Act.put, List.getElem_toArray, List.getElem_cons_succ, List.getElem_cons_zero, List.setIfInBounds_toArray, List.set_cons_zero, List.set_cons_succ]
                refine wpAnyH_ready (rs := [2]) (by kernel_rfl) (by simp) ?_
                refine AllReadyH.cons rfl (fun K9 hK9 => ?_) AllReadyH.nil
                go_simp
                have oL1 : Own oI wv95.heap.size (wv95.heap.size + 1) (wv95.alloc (.cells #[.int .i64 0] 3)) [.slice (some ⟨wv95.heap.size, 0, none⟩) 1 1] [0] := own_lit1 (W := wv95) (by constructor <;> decide)
                obtain ⟨wv96, hw96⟩ : ∃ W, W = wv95.alloc (.cells #[.int .i64 0] 3) := ⟨_, rfl⟩
                rw [← hw96] at oL1 ⊢
                have zv96 : Below wv95.heap.size wv95 wv96 := by rw [hw96]; exact (Below.refl _ _).alloc (Nat.le_refl _) _
                have sv96 : wv96.heap.size = wv95.heap.size + 1 := by rw [hw96]; simp
                replace sv96 := Nat.le_of_eq sv96.symm
                clear hw96
                replace oL2 := oL2.below zv96 (by omega)
                have hv96 := on hv95 zv96
                refine hK9.out _ _ ?_ (fun hHeld => ?_)
                · exact hv96
                clear hK9 K9
                try simp only [Act.put, List.getElem_toArray, List.getElem_cons_succ, List.getElem_cons_zero, List.setIfInBounds_toArray, List.set_cons_zero, List.set_cons_succ]
                refine wpAnyH_ready (rs := [3]) (by kernel_rfl) (by simp) ?_
                refine AllReadyH.cons rfl (fun K9 hK9 => ?_) AllReadyH.nil
                go_simp
                refine (degSeq_spec _ _ t [0] _ (HTR.out _ hv96) (oL1.rd reads_I)).mono ?_
                rintro e wv97 ⟨db97, dn97, dc97, rfl, oD1, zv97⟩
                have sv97 := zv97.size
                replace oL1 := oL1.below zv97 (by omega)
                replace oL2 := oL2.below zv97 (by omega)
                have hv97 := on hv96 zv97
                refine hK9.out _ _ ?_ (fun hHeld => ?_)
                · exact hv97
                clear hK9 K9
                try simp only [Act.put, List.getElem_toArray, List.getElem_cons_succ, List.getElem_cons_zero, List.setIfInBounds_toArray, List.set_cons_zero, List.set_cons_succ]
                refine wpAnyH_ready (rs := [6]) (by kernel_rfl) (by simp) ?_
                refine AllReadyH.cons rfl (fun K9 hK9 => ?_) AllReadyH.nil
                go_simp
                refine (degSeq_spec _ _ u [0] _ (HUR.out _ hv97) (oL2.rd reads_I)).mono ?_
                rintro e wv98 ⟨db98, dn98, dc98, rfl, oD2, zv98⟩
                have sv98 := zv98.size
                replace oD1 := oD1.below zv98 (by omega)
                replace oL1 := oL1.below zv98 (by omega)
                replace oL2 := oL2.below zv98 (by omega)
                have hv98 := on hv97 zv98
                refine hK9.out _ _ ?_ (fun hHeld => ?_)
                · exact hv98
                clear hK9 K9
                try simp only [Act.put, List.getElem_toArray, List.getElem_cons_succ, List.getElem_cons_zero, List.setIfInBounds_toArray, List.set_cons_zero, List.set_cons_succ]
                refine wpAnyH_ready (rs := [7]) (by kernel_rfl) (by simp) ?_
                refine AllReadyH.cons rfl (fun K9 hK9 => ?_) AllReadyH.nil
                go_simp
                refine (pairBound_impl _ _ _ _ _ _ _ _ _ (rI_open9 (oD1.rd reads_I)).2.2.2 (rI_open9 (oD2.rd reads_I)).2.2.2).mono ?_
                rintro e wP ⟨rfl, zP0⟩
                have zP := zP0.below wv98.heap.size
                have hbP := on hv98 zP
                obtain ⟨PB, hPB⟩ : ∃ q, pairBound (degSeq t [0]) (degSeq u [0]) = q := ⟨_, rfl⟩
                have hle := HJB.out
                rw [hPB] at hle
                rw [hPB]
                clear hPB zP0
                refine hK9.out _ _ ?_ (fun hHeld => ?_)
                · exact hbP
                clear hK9 K9
                try simp only [Act.put, List.getElem_toArray, List.getElem_cons_succ, List.getElem_cons_zero, List.setIfInBounds_toArray, List.set_cons_zero, List.set_cons_succ]
                refine wpAnyH_take (i := 8) (v := ?v8_99) rfl (by kernel_rfl) (by kernel_rfl) (by kernel_rfl) (fun _ _ _ h => h) (Or.inl ⟨by rfl, ?hy8_99⟩) (by assumption) ?rest8_99
                case hy8_99 => intro w hSw; (try dsimp only at hSw); go_simp; (try with_reducible rfl)
                try simp only [Act.put, List.getElem_toArray, List.getElem_cons_succ, List.getElem_cons_zero, List.setIfInBounds_toArray, List.set_cons_zero, List.set_cons_succ]
                refine wpAnyH_take (i := 9) (v := ?v9_100) rfl (by kernel_rfl) (by kernel_rfl) (by kernel_rfl) (fun _ _ _ h => h) (Or.inl ⟨by rfl, ?hy9_100⟩) (by assumption) ?rest9_100
                case hy9_100 => intro w hSw; (try dsimp only at hSw); go_simp; (try with_reducible rfl)
                try simp only [Act.put, List.getElem_toArray, List.getElem_cons_succ, List.getElem_cons_zero, List.setIfInBounds_toArray, List.set_cons_zero, List.set_cons_succ]
                refine wpAnyH_take (i := 10) (v := ?v10_101) rfl (by kernel_rfl) (by kernel_rfl) (by kernel_rfl) (fun _ _ _ h => h) (Or.inl ⟨by rfl, ?hy10_101⟩) (by assumption) ?rest10_101
                case hy10_101 => intro w hSw; (try dsimp only at hSw); go_simp; (try with_reducible rfl)
                try simp only [Act.put, List.getElem_toArray, List.getElem_cons_succ, List.getElem_cons_zero, List.setIfInBounds_toArray, List.set_cons_zero, List.set_cons_succ]
                refine wpAnyH_take (i := 11) (v := ?v11_102) rfl (by kernel_rfl) (by kernel_rfl) (by kernel_rfl) (fun _ _ _ h => h) (Or.inl ⟨by rfl, ?hy11_102⟩) (by assumption) ?rest11_102
                case hy11_102 => intro w hSw; (try dsimp only at hSw); go_simp; (try with_reducible rfl)
                try simp only [Act.put, List.getElem_toArray, List.getElem_cons_succ, List.getElem_cons_zero, List.setIfInBounds_toArray, List.set_cons_zero, List.set_cons_succ]
                refine wpAnyH_take (i := 12) (v := ?v12_103) rfl (by kernel_rfl) (by kernel_rfl) (by kernel_rfl) (fun _ _ _ h => h) (Or.inl ⟨by rfl, ?hy12_103⟩) (by assumption) ?rest12_103
                case hy12_103 => intro w hSw; (try dsimp only at hSw); go_simp; (try with_reducible rfl)
                try simp only [Act.put, List.getElem_toArray, List.getElem_cons_succ, List.getElem_cons_zero, List.setIfInBounds_toArray, List.set_cons_zero, List.set_cons_succ]
                refine wpAnyH_ready (rs := [13]) (by kernel_rfl) (by simp) ?_
                refine AllReadyH.cons rfl (fun K9 hK9 => ?_) AllReadyH.nil
                go_simp
                refine (root_spec _ _ _).mono ?_
                rintro e wR ⟨rfl, e9⟩
                rw [hr9]
                have hbR : Below wz.heap.size wz wR := by rw [← e9]; exact hbP
                clear e9
                refine hK9.out _ _ ?_ (fun hHeld => ?_)
                · exact hbR
                clear hK9 K9
                try simp only [Act.put, List.getElem_toArray, List.getElem_cons_succ, List.getElem_cons_zero, List.setIfInBounds_toArray, List.set_cons_zero, List.set_cons_succ]
                refine wpAnyH_take (i := 14) (v := ?v14_104) rfl (by kernel_rfl) (by kernel_rfl) (by kernel_rfl) (fun _ _ _ h => h) (Or.inl ⟨by rfl, ?hy14_104⟩) (by assumption) ?rest14_104
                case hy14_104 => intro w hSw; (try dsimp only at hSw); go_simp; (try with_reducible rfl)
                try simp only [Act.put, List.getElem_toArray, List.getElem_cons_succ, List.getElem_cons_zero, List.setIfInBounds_toArray, List.set_cons_zero, List.set_cons_succ]
                refine wpAnyH_take (i := 15) (v := ?v15_105) rfl (by kernel_rfl) (by kernel_rfl) (by kernel_rfl) (fun _ _ _ h => h) (Or.inl ⟨by rfl, ?hy15_105⟩) (by assumption) ?rest15_105
                case hy15_105 => intro w hSw; (try dsimp only at hSw); go_simp; (try with_reducible rfl)
                try simp only [Act.put, List.getElem_toArray, List.getElem_cons_succ, List.getElem_cons_zero, List.setIfInBounds_toArray, List.set_cons_zero, List.set_cons_succ]
                refine wpAnyH_take (i := 16) (v := ?v16_106) rfl (by kernel_rfl) (by kernel_rfl) (by kernel_rfl) (fun _ _ _ h => h) (Or.inl ⟨by rfl, ?hy16_106⟩) (by assumption) ?rest16_106
                case hy16_106 => intro w hSw; (try dsimp only at hSw); go_simp; (try with_reducible rfl)
                try simp only [Act.put, List.getElem_toArray, List.getElem_cons_succ, List.getElem_cons_zero, List.setIfInBounds_toArray, List.set_cons_zero, List.set_cons_succ]
                refine wpAnyH_take (i := 17) (v := ?v17_107) rfl (by kernel_rfl) (by kernel_rfl) (by kernel_rfl) (fun _ _ _ h => h) (Or.inl ⟨by rfl, ?hy17_107⟩) (by assumption) ?rest17_107
                case hy17_107 => intro w hSw; (try dsimp only at hSw); go_simp; (try with_reducible rfl)
                try simp only [Act.put, List.getElem_toArray, List.getElem_cons_succ, List.getElem_cons_zero, List.setIfInBounds_toArray, List.set_cons_zero, List.set_cons_succ]
                refine wpAnyH_take (i := 19) (v := ?v19_108) rfl (by kernel_rfl) (by kernel_rfl) (by kernel_rfl) (fun _ _ _ h => h) (Or.inl ⟨by rfl, ?hy19_108⟩) (by assumption) ?rest19_108
                case hy19_108 => intro w hSw; (try dsimp only at hSw); go_simp; (try with_reducible rfl)
                try simp only [Act.put, List.getElem_toArray, List.getElem_cons_succ, List.getElem_cons_zero, List.setIfInBounds_toArray, List.set_cons_zero, List.set_cons_succ]
                refine wpAnyH_ready (rs := [18]) (by kernel_rfl) (by simp) ?_
                refine AllReadyH.cons rfl (fun K9 hK9 => ?_) AllReadyH.nil
                go_simp
                refine (norm_impl _ _ _ xs 1 _ (iA.below hbR)).mono ?_
                rintro e wN ⟨rfl, e9⟩
                rw [HNT.out]
                have hbN : Below wz.heap.size wz wN := by rw [← e9]; exact hbR
                clear e9
                refine hK9.out _ _ ?_ (fun hHeld => ?_)
                · exact hbN
                clear hK9 K9
                try simp only [Act.put, List.getElem_toArray, List.getElem_cons_succ, List.getElem_cons_zero, List.setIfInBounds_toArray, List.set_cons_zero, List.set_cons_succ]
                refine wpAnyH_ready (rs := [20]) (by kernel_rfl) (by simp) ?_
                refine AllReadyH.cons rfl (fun K9 hK9 => ?_) AllReadyH.nil
                go_simp
                refine (seqTotal_impl _ _ _ xs _ (iA.below hbN)).mono ?_
                rintro e wM ⟨rfl, e9⟩
                have hbM : Below wz.heap.size wz wM := by rw [← e9]; exact hbN
                clear e9
                refine hK9.out _ _ ?_ (fun hHeld => ?_)
                · exact hbM
                clear hK9 K9
                try simp only [Act.put, List.getElem_toArray, List.getElem_cons_succ, List.getElem_cons_zero, List.setIfInBounds_toArray, List.set_cons_zero, List.set_cons_succ]
                refine wpAnyH_take (i := 21) (v := ?v21_109) rfl (by kernel_rfl) (by kernel_rfl) (by kernel_rfl) (fun _ _ _ h => h) (Or.inl ⟨by rfl, ?hy21_109⟩) (by assumption) ?rest21_109
                case hy21_109 => intro w hSw; (try dsimp only at hSw); go_simp; (try with_reducible rfl)
                try simp only [Act.put, List.getElem_toArray, List.getElem_cons_succ, List.getElem_cons_zero, List.setIfInBounds_toArray, List.set_cons_zero, List.set_cons_succ]
                refine wpAnyH_take (i := 22) (v := ?v22_110) rfl (by kernel_rfl) (by kernel_rfl) (by kernel_rfl) (fun _ _ _ h => h) (Or.inl ⟨by rfl, ?hy22_110⟩) (by assumption) ?rest22_110
                case hy22_110 => intro w hSw; (try dsimp only at hSw); go_simp; (try with_reducible rfl)
                try simp only [Act.put, List.getElem_toArray, List.getElem_cons_succ, List.getElem_cons_zero, List.setIfInBounds_toArray, List.set_cons_zero, List.set_cons_succ]
                refine wpAnyH_take (i := 23) (v := ?v23_111) rfl (by kernel_rfl) (by kernel_rfl) (by kernel_rfl) (fun _ _ _ h => h) (Or.inl ⟨by rfl, ?hy23_111⟩) (by assumption) ?rest23_111
                case hy23_111 => intro w hSw; (try dsimp only at hSw); go_simp; (try with_reducible rfl)
                try simp only [Act.put, List.getElem_toArray, List.getElem_cons_succ, List.getElem_cons_zero, List.setIfInBounds_toArray, List.set_cons_zero, List.set_cons_succ]
                refine wpAnyH_done (by kernel_rfl) ?_ _
                refine NoPanic.normal ?_
                go_wp2_with fail
                go_ret
                exact ⟨ret_bool (by simp), hb45.trans (hbM.mono (by omega))⟩
        · have hv9 : validT u = false := by simpa using hvu
          rw [hv9]
          go_wp2_with fail
          go_ret
          exact ⟨rfl, hb42⟩
      · have hv9 : validT t = false := by simpa using hvt
        rw [hv9]
        go_wp2_with fail
        go_ret
        exact ⟨rfl, hb40⟩
  · have hD8 : isDeg xs = false := by simpa using hD9
    rw [hD8]
    go_wp2_with fail
    go_wp2_with fail
    refine (drawDegSeq_any _ ba bn bc (by omega) (hB.at hb10)).mono ?_
    rintro e w46 ⟨t, cols, ub, un, uc, kb, kn, kc, rfl, hD, _, _, z46⟩
    have s47 := z46.size
    have hb47 := on hb10 z46
    replace iA := iA.below z46
    replace iB := iB.below z46
    obtain ⟨hT, _, _, hrl, _⟩ := hD
    obtain ⟨_, _, hun⟩ := rT_open9 (hT.rd reads_T)
    subst hun
    obtain ⟨w48, hw48⟩ : ∃ W, W = w46.alloc (.cells #[.string t.1, .int .i64 t.2.1, .slice ub t.2.2.length uc] 34) := ⟨_, rfl⟩
    have z48 : Below w46.heap.size w46 w48 := by rw [hw48]; exact (Below.refl _ _).alloc (Nat.le_refl _) _
    have s48 : w48.heap.size = w46.heap.size + 1 := by rw [hw48]; simp
    have hb48 := on hb47 z48
    replace iA := iA.below z48
    replace iB := iB.below z48
    replace hT := hT.below z48 (by omega)
    have X_0 : w48.cell? ⟨w46.heap.size, 0, none⟩ = some (.string t.1) := by rw [hw48]; exact box_cell (Below.refl _ _) rfl
    have X_1 : w48.cell? ⟨w46.heap.size, 1, none⟩ = some (.int .i64 t.2.1) := by rw [hw48]; exact box_cell (Below.refl _ _) rfl
    have X_2 : w48.cell? ⟨w46.heap.size, 2, none⟩ = some (.slice ub t.2.2.length uc) := by rw [hw48]; exact box_cell (Below.refl _ _) rfl
    have raw48_X_0 := X_0
    have raw48_X_1 := X_1
    have raw48_X_2 := X_2
    rw [hw48] at raw48_X_0 raw48_X_1 raw48_X_2
    go_wp2_with fail
    rw [← hw48]
    clear hw48
    clear raw48_X_0 raw48_X_1 raw48_X_2
    refine (fresh_any _ ba bn bc (hB.at hb48)).mono ?_
    rintro e w49 ⟨fb, fn, fc, rfl, hF, hfn, z49⟩
    have s50 := z49.size
    have hb50 := on hb48 z49
    replace iA := iA.below z49
    replace iB := iB.below z49
    replace hT := hT.below z49 (by omega)
    replace X_0 := (z49.cell (p := ⟨w46.heap.size, 0, none⟩) (by simp only []; omega)).trans X_0
    replace X_1 := (z49.cell (p := ⟨w46.heap.size, 1, none⟩) (by simp only []; omega)).trans X_1
    replace X_2 := (z49.cell (p := ⟨w46.heap.size, 2, none⟩) (by simp only []; omega)).trans X_2
    go_wp2_with fail
    refine (drawDegSeq_any _ fb fn fc (by omega) hF).mono ?_
    rintro e w51 ⟨u, cols2, vb, vn, vc, kb2, kn2, kc2, rfl, hD2, _, _, z51⟩
    have s52 := z51.size
    have hb52 := on hb50 z51
    replace iA := iA.below z51
    replace iB := iB.below z51
    replace hT := hT.below z51 (by omega)
    replace X_0 := (z51.cell (p := ⟨w46.heap.size, 0, none⟩) (by simp only []; omega)).trans X_0
    replace X_1 := (z51.cell (p := ⟨w46.heap.size, 1, none⟩) (by simp only []; omega)).trans X_1
    replace X_2 := (z51.cell (p := ⟨w46.heap.size, 2, none⟩) (by simp only []; omega)).trans X_2
    obtain ⟨hU, _, _, hrl2, _⟩ := hD2
    obtain ⟨_, _, hvn⟩ := rT_open9 (hU.rd reads_T)
    subst hvn
    clear hF
    obtain ⟨w53, hw53⟩ : ∃ W, W = w51.alloc (.cells #[.string u.1, .int .i64 u.2.1, .slice vb u.2.2.length vc] 34) := ⟨_, rfl⟩
    have z53 : Below w51.heap.size w51 w53 := by rw [hw53]; exact (Below.refl _ _).alloc (Nat.le_refl _) _
    have s53 : w53.heap.size = w51.heap.size + 1 := by rw [hw53]; simp
    have hb53 := on hb52 z53
    have old53_X_0 := X_0
    have old53_X_1 := X_1
    have old53_X_2 := X_2
    replace iA := iA.below z53
    replace iB := iB.below z53
    replace hT := hT.below z53 (by omega)
    replace X_0 := (z53.cell (p := ⟨w46.heap.size, 0, none⟩) (by simp only []; omega)).trans X_0
    replace X_1 := (z53.cell (p := ⟨w46.heap.size, 1, none⟩) (by simp only []; omega)).trans X_1
    replace X_2 := (z53.cell (p := ⟨w46.heap.size, 2, none⟩) (by simp only []; omega)).trans X_2
    replace hU := hU.below z53 (by omega)
    have U_0 : w53.cell? ⟨w51.heap.size, 0, none⟩ = some (.string u.1) := by rw [hw53]; exact box_cell (Below.refl _ _) rfl
    have U_1 : w53.cell? ⟨w51.heap.size, 1, none⟩ = some (.int .i64 u.2.1) := by rw [hw53]; exact box_cell (Below.refl _ _) rfl
    have U_2 : w53.cell? ⟨w51.heap.size, 2, none⟩ = some (.slice vb u.2.2.length vc) := by rw [hw53]; exact box_cell (Below.refl _ _) rfl
    have raw53_X_0 := X_0
    have raw53_X_1 := X_1
    have raw53_X_2 := X_2
    have raw53_U_0 := U_0
    have raw53_U_1 := U_1
    have raw53_U_2 := U_2
    rw [hw53] at raw53_X_0 raw53_X_1 raw53_X_2 raw53_U_0 raw53_U_1 raw53_U_2
    go_wp2_with fail
    rw [← hw53]
    clear hw53
    clear old53_X_0 old53_X_1 old53_X_2 raw53_X_0 raw53_X_1 raw53_X_2 raw53_U_0 raw53_U_1 raw53_U_2
    refine (validT_spec _ t _ (hT.rd reads_T)).mono ?_
    rintro e w54 ⟨rfl, z54⟩
    have s55 := z54.size
    have hb55 := on hb53 z54
    replace iA := iA.below z54
    replace iB := iB.below z54
    replace hT := hT.below z54 (by omega)
    replace X_0 := (z54.cell (p := ⟨w46.heap.size, 0, none⟩) (by simp only []; omega)).trans X_0
    replace X_1 := (z54.cell (p := ⟨w46.heap.size, 1, none⟩) (by simp only []; omega)).trans X_1
    replace X_2 := (z54.cell (p := ⟨w46.heap.size, 2, none⟩) (by simp only []; omega)).trans X_2
    replace hU := hU.below z54 (by omega)
    replace U_0 := (z54.cell (p := ⟨w51.heap.size, 0, none⟩) (by simp only []; omega)).trans U_0
    replace U_1 := (z54.cell (p := ⟨w51.heap.size, 1, none⟩) (by simp only []; omega)).trans U_1
    replace U_2 := (z54.cell (p := ⟨w51.heap.size, 2, none⟩) (by simp only []; omega)).trans U_2
    by_cases hvt : validT t = true
    · rw [hvt]
      go_wp2_with fail
      refine (validT_spec _ u _ (hU.rd reads_T)).mono ?_
      rintro e w56 ⟨rfl, z56⟩
      have s57 := z56.size
      have hb57 := on hb55 z56
      replace iA := iA.below z56
      replace iB := iB.below z56
      replace hT := hT.below z56 (by omega)
      replace X_0 := (z56.cell (p := ⟨w46.heap.size, 0, none⟩) (by simp only []; omega)).trans X_0
      replace X_1 := (z56.cell (p := ⟨w46.heap.size, 1, none⟩) (by simp only []; omega)).trans X_1
      replace X_2 := (z56.cell (p := ⟨w46.heap.size, 2, none⟩) (by simp only []; omega)).trans X_2
      replace hU := hU.below z56 (by omega)
      replace U_0 := (z56.cell (p := ⟨w51.heap.size, 0, none⟩) (by simp only []; omega)).trans U_0
      replace U_1 := (z56.cell (p := ⟨w51.heap.size, 1, none⟩) (by simp only []; omega)).trans U_1
      replace U_2 := (z56.cell (p := ⟨w51.heap.size, 2, none⟩) (by simp only []; omega)).trans U_2
      by_cases hvu : validT u = true
      · rw [hvu]
        go_wp2_with fail
        have HJB := Lib.hid (join_bound hvt hvu)
        have HVT := Lib.hid hvt
        have HVU := Lib.hid hvu
        have hlt8 := (TOk.of hvt).len
        have hlu8 := (TOk.of hvu).len
        obtain ⟨wq, rfl⟩ : ∃ W, W = w56 := ⟨_, rfl⟩
        have HTR := Lib.hid (fun W (hW : Below wq.heap.size wq W) => rT.mono (hT.rd reads_T) hW)
        have HUR := Lib.hid (fun W (hW : Below wq.heap.size wq W) => rT.mono (hU.rd reads_T) hW)
        have gT := rT_rows (hT.rd reads_T)
        have gU := rT_rows (hU.rd reads_T)
        have tT := rS_sl gT
        have tU := rS_sl gU
        clear gT gU hT hU hvt hvu
        go_loopw [11, 12] (fun s i wr => ∃ j S : Nat, j ≤ t.2.2.length ∧ i = .int .i64 (j : Int) ∧ s = .int .i64 (S : Int) ∧ S ≤ 10 * j ∧ Hid ((S : Int) = agree ((col0 t.2.2).take j) (col0 u.2.2)) ∧ Drew wq wr) (fun _ i _ => t.2.2.length - (intOf i).toNat)
        case atStart => exact ⟨0, 0, Nat.zero_le _, rfl, rfl, Nat.le_refl _, rfl, Drew.refl _⟩
        case round =>
          obtain ⟨j, S, hj, rfl, rfl, hS, HS, hdr⟩ := hrel
          obtain ⟨wo, rfl⟩ : ∃ W, W = wr := ⟨_, rfl⟩
          have x2 := (hdr.cell ⟨w46.heap.size, 2, none⟩).trans X_2
          have u2 := (hdr.cell ⟨w51.heap.size, 2, none⟩).trans U_2
          by_cases hlt : j < t.2.2.length
          · obtain ⟨b1, o1, r1, m1, q1, z1r, rfl, c1, hx1, i1, _, _⟩ := tT.row hlt
            have hl1 := valid_row HVT.out hx1.out
            rw [i1.len] at hl1
            obtain ⟨b2, o2, x0, rfl, c2, hx0, _, _⟩ := i1.get (k := 0) (by omega)
            rw [Nat.add_zero] at c2
            have d1 := (hdr.cell ⟨b1, o1 + j, none⟩).trans c1
            have d2 := (hdr.cell ⟨b2, o2, none⟩).trans c2
            have HST : Hid (agree ((col0 t.2.2).take (j + 1)) (col0 u.2.2) = (S : Int) + (cntRow [x0] (col0 u.2.2) : Int)) := Lib.hid (by rw [agree_step (col0_get hx1.out), hx0.out, ← HS.out])
            clear c1 c2 i1 hx1 hx0
            go_wp2_with fail
            go_loopw [11, 13] (fun s k wi => ∃ q Q : Nat, q ≤ u.2.2.length ∧ k = .int .i64 (q : Int) ∧ s = .int .i64 ((S + Q : Nat) : Int) ∧ Q ≤ q ∧ Hid (Q = cntRow [x0] ((col0 u.2.2).take q)) ∧ Drew wo wi) (fun _ k _ => u.2.2.length - (intOf k).toNat)
            case atStart => exact ⟨0, 0, Nat.zero_le _, rfl, rfl, Nat.le_refl _, rfl, Drew.refl _⟩
            case round =>
              obtain ⟨q, Q, hq, rfl, rfl, hQ, HQ, hdi⟩ := hrel
              have y2 := (hdi.cell ⟨w46.heap.size, 2, none⟩).trans x2
              have v2 := (hdi.cell ⟨w51.heap.size, 2, none⟩).trans u2
              by_cases hlq : q < u.2.2.length
              · obtain ⟨b3, o3, r3, m3, q3, z3r, rfl, c3, hx3, i3, _, _⟩ := tU.row hlq
                have hl3 := valid_row HVU.out hx3.out
                rw [i3.len] at hl3
                obtain ⟨b4, o4, y0, rfl, c4, hy0, _, _⟩ := i3.get (k := 0) (by omega)
                rw [Nat.add_zero] at c4
                have e1 := (hdi.cell ⟨b1, o1 + j, none⟩).trans d1
                have e2 := (hdi.cell ⟨b2, o2, none⟩).trans d2
                have e3 := (hdi.cell ⟨b3, o3 + q, none⟩).trans ((hdr.cell ⟨b3, o3 + q, none⟩).trans c3)
                have e4 := (hdi.cell ⟨b4, o4, none⟩).trans ((hdr.cell ⟨b4, o4, none⟩).trans c4)
                have HQT : Hid (cntRow [x0] ((col0 u.2.2).take (q + 1)) = Q + (if x0 = y0 then 1 else 0)) := Lib.hid (by rw [cnt_step (y := y0) (by rw [col0_get hx3.out, hy0.out]), ← HQ.out])
                clear c3 c4 i3 hx3 hy0 d1 d2
                have hm1 : (0 : Int) < (m1 : Int) := by omega
                have hm3 : (0 : Int) < (m3 : Int) := by omega
                have hji : (j : Int) < (t.2.2.length : Int) := by omega
                have hqi : (q : Int) < (u.2.2.length : Int) := by omega
                by_cases hxy : x0 = y0
                · subst hxy
                  go_wp2_with fail
                  go_quiet (fail)
                  go_wp2_with fail
                  go_roundw
                  case rel => exact ⟨q + 1, Q + 1, by omega, by go_num, by go_num, by omega, by rw [Hid, HQT.out]; simp, hdi.step _⟩
                  case measure => simp [intOf]; omega
                · have hxe : (x0 == y0) = false := by rw [beq_eq_false_iff_ne]; exact hxy
                  go_wp2_with fail
                  go_quiet (fail)
                  go_wp2_with fail
                  go_roundw
                  case rel => exact ⟨q + 1, Q, by omega, by go_num, by go_num, by omega, by rw [Hid, HQT.out, if_neg hxy]; rfl, hdi.step _⟩
                  case measure => simp [intOf]; omega
              · obtain rfl : q = u.2.2.length := by omega
                have hQE : Hid (((S + Q : Nat) : Int) = agree ((col0 t.2.2).take (j + 1)) (col0 u.2.2)) := Lib.hid (by
                  rw [HST.out, HQ.out, List.take_of_length_le (by rw [col0_len]; exact Nat.le_refl _)]; omega)
                go_wp2_with fail
                go_roundw
                case rel => exact ⟨j + 1, S + Q, by omega, by go_num, by go_num, by omega, hQE.out, hdr.trans hdi⟩
                case measure => simp [intOf]; omega
          · obtain rfl : j = t.2.2.length := by omega
            have HSE : Hid ((S : Int) ≤ pairBound (degSeq t [0]) (degSeq u [0])) := Lib.hid (by
              rw [HS.out, List.take_of_length_le (by rw [col0_len]; exact Nat.le_refl _)]; exact HJB.out)
            clear HJB x2 u2 HS
            have HJB := HSE
            clear HSE
            have hwo : Below wq.heap.size wq wo := hdr.below _
            replace hdr : Below wq.heap.size wq wo := hdr.below _
            have s58 := hdr.size
            have hb58 := on hb57 hdr
            replace iA := iA.below hdr
            replace iB := iB.below hdr
            replace X_0 := (hdr.cell (p := ⟨w46.heap.size, 0, none⟩) (by simp only []; omega)).trans X_0
            replace X_1 := (hdr.cell (p := ⟨w46.heap.size, 1, none⟩) (by simp only []; omega)).trans X_1
            replace X_2 := (hdr.cell (p := ⟨w46.heap.size, 2, none⟩) (by simp only []; omega)).trans X_2
            replace U_0 := (hdr.cell (p := ⟨w51.heap.size, 0, none⟩) (by simp only []; omega)).trans U_0
            replace U_1 := (hdr.cell (p := ⟨w51.heap.size, 1, none⟩) (by simp only []; omega)).trans U_1
            replace U_2 := (hdr.cell (p := ⟨w51.heap.size, 2, none⟩) (by simp only []; omega)).trans U_2
            go_wp2_with fail
            refine (drawRoot_any _ ba bn bc (by omega) (hB.at hb58)).mono ?_
            rintro e w59 ⟨x9, k9, rfl, hx9, hk9, z59⟩
            have s60 := z59.size
            have hb60 := on hb58 z59
            replace iA := iA.below z59
            replace iB := iB.below z59
            replace X_0 := (z59.cell (p := ⟨w46.heap.size, 0, none⟩) (by simp only []; omega)).trans X_0
            replace X_1 := (z59.cell (p := ⟨w46.heap.size, 1, none⟩) (by simp only []; omega)).trans X_1
            replace X_2 := (z59.cell (p := ⟨w46.heap.size, 2, none⟩) (by simp only []; omega)).trans X_2
            replace U_0 := (z59.cell (p := ⟨w51.heap.size, 0, none⟩) (by simp only []; omega)).trans U_0
            replace U_1 := (z59.cell (p := ⟨w51.heap.size, 1, none⟩) (by simp only []; omega)).trans U_1
            replace U_2 := (z59.cell (p := ⟨w51.heap.size, 2, none⟩) (by simp only []; omega)).trans U_2
            go_wp2_with fail
            refine (root_impl x9 k9 _).mono ?_
            rintro e w' ⟨rfl, rfl⟩
            obtain ⟨r9, hr9⟩ : ∃ q, rootOf x9 k9 = q := ⟨_, rfl⟩
            rw [hr9]
            have hqz := on hwo z59
            replace HTR := Lib.hid (fun W (hW : Below w59.heap.size w59 W) => HTR.out W (on hqz hW))
            replace HUR := Lib.hid (fun W (hW : Below w59.heap.size w59 W) => HUR.out W (on hqz hW))
            clear hqz tT tU hB
            obtain ⟨wz, rfl⟩ : ∃ W, W = w59 := ⟨_, rfl⟩
            go_wp2_with fail
            have hdr : Below wz.heap.size wz wz.drew := (Below.refl _ _).drew
            refine wp_region_noPanic ?_
            refine wp_region_held_drew (S := (fun W => Below wz.heap.size wz W)) (by kernel_rfl) ?hS9 (fun hHeld => ?_)
            case hS9 => exact hdr
            refine wpAnyH_take (i := 0) (v := ?v0_112) rfl (by kernel_rfl) (by kernel_rfl) (by kernel_rfl) (fun _ _ _ h => h) (Or.inl ⟨by rfl, ?hy0_112⟩) (by assumption) ?rest0_112
            case hy0_112 => intro w hSw; (try dsimp only at hSw); go_simp; (try with_reducible rfl)
            try simp only [Act.put, List.getElem_toArray, List.getElem_cons_succ, List.getElem_cons_zero, List.setIfInBounds_toArray, List.set_cons_zero, List.set_cons_succ]
            refine wpAnyH_take (i := 1) (v := ?v1_113) rfl (by kernel_rfl) (by kernel_rfl) (by kernel_rfl) (fun _ _ _ h => h) (Or.inl ⟨by rfl, ?hy1_113⟩) (by assumption) ?rest1_113
            case hy1_113 => intro w hSw; (try dsimp only at hSw); have q_X_0 := (hSw.cell (p := ⟨w46.heap.size, 0, none⟩) (by first | exact cell_lt X_0 | (simp only []; omega))).trans X_0; have q_X_1 := (hSw.cell (p := ⟨w46.heap.size, 1, none⟩) (by first | exact cell_lt X_1 | (simp only []; omega))).trans X_1; have q_X_2 := (hSw.cell (p := ⟨w46.heap.size, 2, none⟩) (by first | exact cell_lt X_2 | (simp only []; omega))).trans X_2; go_simp; (try with_reducible rfl)
            try simp only [Act.put, List.getElem_toArray, List.getElem_cons_succ, List.getElem_cons_zero, List.setIfInBounds_toArray, List.set_cons_zero, List.set_cons_succ]
            refine wpAnyH_take (i := 4) (v := ?v4_114) rfl (by kernel_rfl) (by kernel_rfl) (by kernel_rfl) (fun _ _ _ h => h) (Or.inl ⟨by rfl, ?hy4_114⟩) (by assumption) ?rest4_114
            case hy4_114 => intro w hSw; (try dsimp only at hSw); have q_U_0 := (hSw.cell (p := ⟨w51.heap.size, 0, none⟩) (by first | exact cell_lt U_0 | (simp only []; omega))).trans U_0; have q_U_1 := (hSw.cell (p := ⟨w51.heap.size, 1, none⟩) (by first | exact cell_lt U_1 | (simp only []; omega))).trans U_1; have q_U_2 := (hSw.cell (p := ⟨w51.heap.size, 2, none⟩) (by first | exact cell_lt U_2 | (simp only []; omega))).trans U_2; go_simp; (try with_reducible rfl)
            try simp only [Act.put, List.getElem_toArray, List.getElem_cons_succ, List.getElem_cons_zero, List.setIfInBounds_toArray, List.set_cons_zero, List.set_cons_succ]
            refine wpAnyH_ready (rs := [2, 5]) (by kernel_rfl) (by simp) ?_
            refine AllReadyH.cons rfl (fun K9 hK9 => ?_) (AllReadyH.cons rfl (fun K9 hK9 => ?_) AllReadyH.nil)
            · skip
              go_simp
              have oL1 : Own oI wz.heap.size (wz.heap.size + 1) ((wz.alloc (.cells #[.int .i64 0] 3)).drew) [.slice (some ⟨wz.heap.size, 0, none⟩) 1 1] [0] := (own_lit1 (W := wz) (by constructor <;> decide)).below ((Below.refl _ _).drew) (Nat.le_refl _)
              obtain ⟨wv115, hw115⟩ : ∃ W, W = (wz.alloc (.cells #[.int .i64 0] 3)).drew := ⟨_, rfl⟩
              rw [← hw115] at oL1 ⊢
              have zv115 : Below wz.heap.size wz wv115 := by rw [hw115]; exact ((Below.refl _ _).alloc (Nat.le_refl _) _).drew
              have sv115 : wv115.heap.size = wz.heap.size + 1 := by rw [hw115]; simp
              replace sv115 := Nat.le_of_eq sv115.symm
              clear hw115
              have hv115 := zv115
              refine hK9.out _ _ ?_ (fun hHeld => ?_)
              · exact hv115
              clear hK9 K9
              try simp only [Act.put, List.getElem_toArray, List.getElem_cons_succ, List.getElem_cons_zero, List.setIfInBounds_toArray, List.set_cons_zero, List.set_cons_succ]
              refine wpAnyH_ready (rs := [3, 5]) (by kernel_rfl) (by simp) ?_
              refine AllReadyH.cons rfl (fun K9 hK9 => ?_) (AllReadyH.cons rfl (fun K9 hK9 => ?_) AllReadyH.nil)
              · skip
                go_simp
                refine (degSeq_spec _ _ t [0] _ (HTR.out _ hv115) (oL1.rd reads_I)).mono ?_
                rintro e wv116 ⟨db116, dn116, dc116, rfl, oD1, zv116⟩
                have sv116 := zv116.size
                replace oL1 := oL1.below zv116 (by omega)
                have hv116 := on hv115 zv116
                refine hK9.out _ _ ?_ (fun hHeld => ?_)
                · exact hv116
                clear hK9 K9
                try simp only [Act.put, List.getElem_toArray, List.getElem_cons_succ, List.getElem_cons_zero, List.setIfInBounds_toArray, List.set_cons_zero, List.set_cons_succ]
                refine wpAnyH_ready (rs := [5]) (by kernel_rfl) (by simp) ?_
                refine AllReadyH.cons rfl (fun K9 hK9 => ?_) AllReadyH.nil
                go_simp
                have oL2 : Own oI wv116.heap.size (wv116.heap.size + 1) (wv116.alloc (.cells #[.int .i64 0] 3)) [.slice (some ⟨wv116.heap.size, 0, none⟩) 1 1] [0] := own_lit1 (W := wv116) (by constructor <;> decide)
                obtain ⟨wv117, hw117⟩ : ∃ W, W = wv116.alloc (.cells #[.int .i64 0] 3) := ⟨_, rfl⟩
                rw [← hw117] at oL2 ⊢
                have zv117 : Below wv116.heap.size wv116 wv117 := by rw [hw117]; exact (Below.refl _ _).alloc (Nat.le_refl _) _
                have sv117 : wv117.heap.size = wv116.heap.size + 1 := by rw [hw117]; simp
                replace sv117 := Nat.le_of_eq sv117.symm
                clear hw117
                replace oD1 := oD1.below zv117 (by omega)
                replace oL1 := oL1.below zv117 (by omega)
                have hv117 := on hv116 zv117
                refine hK9.out _ _ ?_ (fun hHeld => ?_)
                · exact hv117
                clear hK9 K9
                try simp only [Act.put, List.getElem_toArray, List.getElem_cons_succ, List.getElem_cons_zero, List.setIfInBounds_toArray, List.set_cons_zero, List.set_cons_succ]
                refine wpAnyH_ready (rs := [6]) (by kernel_rfl) (by simp) ?_
                refine AllReadyH.cons rfl (fun K9 hK9 => ?_) AllReadyH.nil
                go_simp
                refine (degSeq_spec _ _ u [0] _ (HUR.out _ hv117) (oL2.rd reads_I)).mono ?_
                rintro e wv118 ⟨db118, dn118, dc118, rfl, oD2, zv118⟩
                have sv118 := zv118.size
                replace oD1 := oD1.below zv118 (by omega)
                replace oL1 := oL1.below zv118 (by omega)
                replace oL2 := oL2.below zv118 (by omega)
                have hv118 := on hv117 zv118
                refine hK9.out _ _ ?_ (fun hHeld => ?_)
                · exact hv118
                clear hK9 K9
                try simp only [Act.put, List.getElem_toArray, List.getElem_cons_succ, List.getElem_cons_zero, List.setIfInBounds_toArray, List.set_cons_zero, List.set_cons_succ]
                refine wpAnyH_ready (rs := [7]) (by kernel_rfl) (by simp) ?_
                refine AllReadyH.cons rfl (fun K9 hK9 => ?_) AllReadyH.nil
                go_simp
                refine (pairBound_impl _ _ _ _ _ _ _ _ _ (rI_open9 (oD1.rd reads_I)).2.2.2 (rI_open9 (oD2.rd reads_I)).2.2.2).mono ?_
                rintro e wP ⟨rfl, zP0⟩
                have zP := zP0.below wv118.heap.size
                have hbP := on hv118 zP
                obtain ⟨PB, hPB⟩ : ∃ q, pairBound (degSeq t [0]) (degSeq u [0]) = q := ⟨_, rfl⟩
                have hle := HJB.out
                rw [hPB] at hle
                rw [hPB]
                clear hPB zP0
                refine hK9.out _ _ ?_ (fun hHeld => ?_)
                · exact hbP
                clear hK9 K9
                try simp only [Act.put, List.getElem_toArray, List.getElem_cons_succ, List.getElem_cons_zero, List.setIfInBounds_toArray, List.set_cons_zero, List.set_cons_succ]
                refine wpAnyH_take (i := 8) (v := ?v8_119) rfl (by kernel_rfl) (by kernel_rfl) (by kernel_rfl) (fun _ _ _ h => h) (Or.inl ⟨by rfl, ?hy8_119⟩) (by assumption) ?rest8_119
                case hy8_119 => intro w hSw; (try dsimp only at hSw); go_simp; (try with_reducible rfl)
                try simp only [Act.put, List.getElem_toArray, List.getElem_cons_succ, List.getElem_cons_zero, List.setIfInBounds_toArray, List.set_cons_zero, List.set_cons_succ]
                refine wpAnyH_take (i := 9) (v := ?v9_120) rfl (by kernel_rfl) (by kernel_rfl) (by kernel_rfl) (fun _ _ _ h => h) (Or.inl ⟨by rfl, ?hy9_120⟩) (by assumption) ?rest9_120
                case hy9_120 => intro w hSw; (try dsimp only at hSw); go_simp; (try with_reducible rfl)
                try simp only [Act.put, List.getElem_toArray, List.getElem_cons_succ, List.getElem_cons_zero, List.setIfInBounds_toArray, List.set_cons_zero, List.set_cons_succ]
                refine wpAnyH_take (i := 10) (v := ?v10_121) rfl (by kernel_rfl) (by kernel_rfl) (by kernel_rfl) (fun _ _ _ h => h) (Or.inl ⟨by rfl, ?hy10_121⟩) (by assumption) ?rest10_121
                case hy10_121 => intro w hSw; (try dsimp only at hSw); go_simp; (try with_reducible rfl)
                try simp only [Act.put, List.getElem_toArray, List.getElem_cons_succ, List.getElem_cons_zero, List.setIfInBounds_toArray, List.set_cons_zero, List.set_cons_succ]
                refine wpAnyH_take (i := 11) (v := ?v11_122) rfl (by kernel_rfl) (by kernel_rfl) (by kernel_rfl) (fun _ _ _ h => h) (Or.inl ⟨by rfl, ?hy11_122⟩) (by assumption) ?rest11_122
                case hy11_122 => intro w hSw; (try dsimp only at hSw); go_simp; (try with_reducible rfl)
                try simp only [Act.put, List.getElem_toArray, List.getElem_cons_succ, List.getElem_cons_zero, List.setIfInBounds_toArray, List.set_cons_zero, List.set_cons_succ]
                refine wpAnyH_take (i := 12) (v := ?v12_123) rfl (by kernel_rfl) (by kernel_rfl) (by kernel_rfl) (fun _ _ _ h => h) (Or.inl ⟨by rfl, ?hy12_123⟩) (by assumption) ?rest12_123
                case hy12_123 => intro w hSw; (try dsimp only at hSw); go_simp; (try with_reducible rfl)
                try simp only [Act.put, List.getElem_toArray, List.getElem_cons_succ, List.getElem_cons_zero, List.setIfInBounds_toArray, List.set_cons_zero, List.set_cons_succ]
                refine wpAnyH_ready (rs := [13]) (by kernel_rfl) (by simp) ?_
                refine AllReadyH.cons rfl (fun K9 hK9 => ?_) AllReadyH.nil
                go_simp
                refine (root_spec _ _ _).mono ?_
                rintro e wR ⟨rfl, e9⟩
                rw [hr9]
                have hbR : Below wz.heap.size wz wR := by rw [← e9]; exact hbP
                clear e9
                refine hK9.out _ _ ?_ (fun hHeld => ?_)
                · exact hbR
                clear hK9 K9
                try simp only [Act.put, List.getElem_toArray, List.getElem_cons_succ, List.getElem_cons_zero, List.setIfInBounds_toArray, List.set_cons_zero, List.set_cons_succ]
                refine wpAnyH_take (i := 14) (v := ?v14_124) rfl (by kernel_rfl) (by kernel_rfl) (by kernel_rfl) (fun _ _ _ h => h) (Or.inl ⟨by rfl, ?hy14_124⟩) (by assumption) ?rest14_124
                case hy14_124 => intro w hSw; (try dsimp only at hSw); go_simp; (try with_reducible rfl)
                try simp only [Act.put, List.getElem_toArray, List.getElem_cons_succ, List.getElem_cons_zero, List.setIfInBounds_toArray, List.set_cons_zero, List.set_cons_succ]
                refine wpAnyH_take (i := 15) (v := ?v15_125) rfl (by kernel_rfl) (by kernel_rfl) (by kernel_rfl) (fun _ _ _ h => h) (Or.inl ⟨by rfl, ?hy15_125⟩) (by assumption) ?rest15_125
                case hy15_125 => intro w hSw; (try dsimp only at hSw); go_simp; (try with_reducible rfl)
                try simp only [Act.put, List.getElem_toArray, List.getElem_cons_succ, List.getElem_cons_zero, List.setIfInBounds_toArray, List.set_cons_zero, List.set_cons_succ]
                refine wpAnyH_take (i := 16) (v := ?v16_126) rfl (by kernel_rfl) (by kernel_rfl) (by kernel_rfl) (fun _ _ _ h => h) (Or.inl ⟨by rfl, ?hy16_126⟩) (by assumption) ?rest16_126
                case hy16_126 => intro w hSw; (try dsimp only at hSw); go_simp; (try with_reducible rfl)
                try simp only [Act.put, List.getElem_toArray, List.getElem_cons_succ, List.getElem_cons_zero, List.setIfInBounds_toArray, List.set_cons_zero, List.set_cons_succ]
                refine wpAnyH_take (i := 17) (v := ?v17_127) rfl (by kernel_rfl) (by kernel_rfl) (by kernel_rfl) (fun _ _ _ h => h) (Or.inl ⟨by rfl, ?hy17_127⟩) (by assumption) ?rest17_127
                case hy17_127 => intro w hSw; (try dsimp only at hSw); go_simp; (try with_reducible rfl)
                try simp only [Act.put, List.getElem_toArray, List.getElem_cons_succ, List.getElem_cons_zero, List.setIfInBounds_toArray, List.set_cons_zero, List.set_cons_succ]
                refine wpAnyH_take (i := 19) (v := ?v19_128) rfl (by kernel_rfl) (by kernel_rfl) (by kernel_rfl) (fun _ _ _ h => h) (Or.inl ⟨by rfl, ?hy19_128⟩) (by assumption) ?rest19_128
                case hy19_128 => intro w hSw; (try dsimp only at hSw); go_simp; (try with_reducible rfl)
                try simp only [Act.put, List.getElem_toArray, List.getElem_cons_succ, List.getElem_cons_zero, List.setIfInBounds_toArray, List.set_cons_zero, List.set_cons_succ]
                refine wpAnyH_ready (rs := [18]) (by kernel_rfl) (by simp) ?_
                refine AllReadyH.cons rfl (fun K9 hK9 => ?_) AllReadyH.nil
                go_simp
                refine (norm_impl _ _ _ xs 1 _ (iA.below hbR)).mono ?_
                rintro e wN ⟨rfl, e9⟩
                rw [HNT.out]
                have hbN : Below wz.heap.size wz wN := by rw [← e9]; exact hbR
                clear e9
                refine hK9.out _ _ ?_ (fun hHeld => ?_)
                · exact hbN
                clear hK9 K9
                try simp only [Act.put, List.getElem_toArray, List.getElem_cons_succ, List.getElem_cons_zero, List.setIfInBounds_toArray, List.set_cons_zero, List.set_cons_succ]
                refine wpAnyH_ready (rs := [20]) (by kernel_rfl) (by simp) ?_
                refine AllReadyH.cons rfl (fun K9 hK9 => ?_) AllReadyH.nil
                go_simp
                refine (seqTotal_impl _ _ _ xs _ (iA.below hbN)).mono ?_
                rintro e wM ⟨rfl, e9⟩
                have hbM : Below wz.heap.size wz wM := by rw [← e9]; exact hbN
                clear e9
                refine hK9.out _ _ ?_ (fun hHeld => ?_)
                · exact hbM
                clear hK9 K9
                try simp only [Act.put, List.getElem_toArray, List.getElem_cons_succ, List.getElem_cons_zero, List.setIfInBounds_toArray, List.set_cons_zero, List.set_cons_succ]
                refine wpAnyH_take (i := 21) (v := ?v21_129) rfl (by kernel_rfl) (by kernel_rfl) (by kernel_rfl) (fun _ _ _ h => h) (Or.inl ⟨by rfl, ?hy21_129⟩) (by assumption) ?rest21_129
                case hy21_129 => intro w hSw; (try dsimp only at hSw); go_simp; (try with_reducible rfl)
                try simp only [Act.put, List.getElem_toArray, List.getElem_cons_succ, List.getElem_cons_zero, List.setIfInBounds_toArray, List.set_cons_zero, List.set_cons_succ]
                refine wpAnyH_take (i := 22) (v := ?v22_130) rfl (by kernel_rfl) (by kernel_rfl) (by kernel_rfl) (fun _ _ _ h => h) (Or.inl ⟨by rfl, ?hy22_130⟩) (by assumption) ?rest22_130
                case hy22_130 => intro w hSw; (try dsimp only at hSw); go_simp; (try with_reducible rfl)
                try simp only [Act.put, List.getElem_toArray, List.getElem_cons_succ, List.getElem_cons_zero, List.setIfInBounds_toArray, List.set_cons_zero, List.set_cons_succ]
                refine wpAnyH_take (i := 23) (v := ?v23_131) rfl (by kernel_rfl) (by kernel_rfl) (by kernel_rfl) (fun _ _ _ h => h) (Or.inl ⟨by rfl, ?hy23_131⟩) (by assumption) ?rest23_131
                case hy23_131 => intro w hSw; (try dsimp only at hSw); go_simp; (try with_reducible rfl)
                try simp only [Act.put, List.getElem_toArray, List.getElem_cons_succ, List.getElem_cons_zero, List.setIfInBounds_toArray, List.set_cons_zero, List.set_cons_succ]
                refine wpAnyH_done (by kernel_rfl) ?_ _
                refine NoPanic.normal ?_
                go_wp2_with fail
                go_ret
                exact ⟨ret_bool (by simp), hb60.trans (hbM.mono (by omega))⟩
              · skip
                go_simp
                have oL2 : Own oI wv115.heap.size (wv115.heap.size + 1) (wv115.alloc (.cells #[.int .i64 0] 3)) [.slice (some ⟨wv115.heap.size, 0, none⟩) 1 1] [0] := own_lit1 (W := wv115) (by constructor <;> decide)
                obtain ⟨wv132, hw132⟩ : ∃ W, W = wv115.alloc (.cells #[.int .i64 0] 3) := ⟨_, rfl⟩
                rw [← hw132] at oL2 ⊢
                have zv132 : Below wv115.heap.size wv115 wv132 := by rw [hw132]; exact (Below.refl _ _).alloc (Nat.le_refl _) _
                have sv132 : wv132.heap.size = wv115.heap.size + 1 := by rw [hw132]; simp
                replace sv132 := Nat.le_of_eq sv132.symm
                clear hw132
                replace oL1 := oL1.below zv132 (by omega)
                have hv132 := on hv115 zv132
                refine hK9.out _ _ ?_ (fun hHeld => ?_)
                · exact hv132
                clear hK9 K9
                try simp only [Act.put, List.getElem_toArray, List.getElem_cons_succ, List.getElem_cons_zero, List.setIfInBounds_toArray, List.set_cons_zero, List.set_cons_succ]
                refine wpAnyH_ready (rs := [3]) (by kernel_rfl) (by simp) ?_
                refine AllReadyH.cons rfl (fun K9 hK9 => ?_) AllReadyH.nil
                go_simp
                refine (degSeq_spec _ _ t [0] _ (HTR.out _ hv132) (oL1.rd reads_I)).mono ?_
                rintro e wv133 ⟨db133, dn133, dc133, rfl, oD1, zv133⟩
                have sv133 := zv133.size
                replace oL1 := oL1.below zv133 (by omega)
                replace oL2 := oL2.below zv133 (by omega)
                have hv133 := on hv132 zv133
                refine hK9.out _ _ ?_ (fun hHeld => ?_)
                · exact hv133
                clear hK9 K9
                try simp only [Act.put, List.getElem_toArray, List.getElem_cons_succ, List.getElem_cons_zero, List.setIfInBounds_toArray, List.set_cons_zero, List.set_cons_succ]
                refine wpAnyH_ready (rs := [6]) (by kernel_rfl) (by simp) ?_
                refine AllReadyH.cons rfl (fun K9 hK9 => ?_) AllReadyH.nil
                go_simp
                refine (degSeq_spec _ _ u [0] _ (HUR.out _ hv133) (oL2.rd reads_I)).mono ?_
                rintro e wv134 ⟨db134, dn134, dc134, rfl, oD2, zv134⟩
                have sv134 := zv134.size
                replace oD1 := oD1.below zv134 (by omega)
                replace oL1 := oL1.below zv134 (by omega)
                replace oL2 := oL2.below zv134 (by omega)
                have hv134 := on hv133 zv134
                refine hK9.out _ _ ?_ (fun hHeld => ?_)
                · exact hv134
                clear hK9 K9
                try simp only [Act.put, List.getElem_toArray, List.getElem_cons_succ, List.getElem_cons_zero, List.setIfInBounds_toArray, List.set_cons_zero, List.set_cons_succ]
                refine wpAnyH_ready (rs := [7]) (by kernel_rfl) (by simp) ?_
                refine AllReadyH.cons rfl (fun K9 hK9 => ?_) AllReadyH.nil
                go_simp
                refine (pairBound_impl _ _ _ _ _ _ _ _ _ (rI_open9 (oD1.rd reads_I)).2.2.2 (rI_open9 (oD2.rd reads_I)).2.2.2).mono ?_
                rintro e wP ⟨rfl, zP0⟩
                have zP := zP0.below wv134.heap.size
                have hbP := on hv134 zP
                obtain ⟨PB, hPB⟩ : ∃ q, pairBound (degSeq t [0]) (degSeq u [0]) = q := ⟨_, rfl⟩
                have hle := HJB.out
                rw [hPB] at hle
                rw [hPB]
                clear hPB zP0
                refine hK9.out _ _ ?_ (fun hHeld => ?_)
                · exact hbP
                clear hK9 K9
                try simp only [Act.put, List.getElem_toArray, List.getElem_cons_succ, List.getElem_cons_zero, List.setIfInBounds_toArray, List.set_cons_zero, List.set_cons_succ]
                refine wpAnyH_take (i := 8) (v := ?v8_135) rfl (by kernel_rfl) (by kernel_rfl) (by kernel_rfl) (fun _ _ _ h => h) (Or.inl ⟨by rfl, ?hy8_135⟩) (by assumption) ?rest8_135
                case hy8_135 => intro w hSw; (try dsimp only at hSw); go_simp; (try with_reducible rfl)
                try simp only [Act.put, List.getElem_toArray, List.getElem_cons_succ, List.getElem_cons_zero, List.setIfInBounds_toArray, List.set_cons_zero, List.set_cons_succ]
                refine wpAnyH_take (i := 9) (v := ?v9_136) rfl (by kernel_rfl) (by kernel_rfl) (by kernel_rfl) (fun _ _ _ h => h) (Or.inl ⟨by rfl, ?hy9_136⟩) (by assumption) ?rest9_136
                case hy9_136 => intro w hSw; (try dsimp only at hSw); go_simp; (try with_reducible rfl)
                try simp only [Act.put, List.getElem_toArray, List.getElem_cons_succ, List.getElem_cons_zero, List.setIfInBounds_toArray, List.set_cons_zero, List.set_cons_succ]
                refine wpAnyH_take (i := 10) (v := ?v10_137) rfl (by kernel_rfl) (by kernel_rfl) (by kernel_rfl) (fun _ _ _ h => h) (Or.inl ⟨by rfl, ?hy10_137⟩) (by assumption) ?rest10_137
                case hy10_137 => intro w hSw; (try dsimp only at hSw); go_simp; (try with_reducible rfl)
                try simp only [Act.put, List.getElem_toArray, List.getElem_cons_succ, List.getElem_cons_zero, List.setIfInBounds_toArray, List.set_cons_zero, List.set_cons_succ]
                refine wpAnyH_take (i := 11) (v := ?v11_138) rfl (by kernel_rfl) (by kernel_rfl) (by kernel_rfl) (fun _ _ _ h => h) (Or.inl ⟨by rfl, ?hy11_138⟩) (by assumption) ?rest11_138
                case hy11_138 => intro w hSw; (try dsimp only at hSw); go_simp; (try with_reducible rfl)
                try simp only [Act.put, List.getElem_toArray, List.getElem_cons_succ, List.getElem_cons_zero, List.setIfInBounds_toArray, List.set_cons_zero, List.set_cons_succ]
                refine wpAnyH_take (i := 12) (v := ?v12_139) rfl (by kernel_rfl) (by kernel_rfl) (by kernel_rfl) (fun _ _ _ h => h) (Or.inl ⟨by rfl, ?hy12_139⟩) (by assumption) ?rest12_139
                case hy12_139 => intro w hSw; (try dsimp only at hSw); go_simp; (try with_reducible rfl)
                try simp only [Act.put, List.getElem_toArray, List.getElem_cons_succ, List.getElem_cons_zero, List.setIfInBounds_toArray, List.set_cons_zero, List.set_cons_succ]
                refine wpAnyH_ready (rs := [13]) (by kernel_rfl) (by simp) ?_
                refine AllReadyH.cons rfl (fun K9 hK9 => ?_) AllReadyH.nil
                go_simp
                refine (root_spec _ _ _).mono ?_
                rintro e wR ⟨rfl, e9⟩
                rw [hr9]
                have hbR : Below wz.heap.size wz wR := by rw [← e9]; exact hbP
                clear e9
                refine hK9.out _ _ ?_ (fun hHeld => ?_)
                · exact hbR
                clear hK9 K9
                try simp only [Act.put, List.getElem_toArray, List.getElem_cons_succ, List.getElem_cons_zero, List.setIfInBounds_toArray, List.set_cons_zero, List.set_cons_succ]
                refine wpAnyH_take (i := 14) (v := ?v14_140) rfl (by kernel_rfl) (by kernel_rfl) (by kernel_rfl) (fun _ _ _ h => h) (Or.inl ⟨by rfl, ?hy14_140⟩) (by assumption) ?rest14_140
                case hy14_140 => intro w hSw; (try dsimp only at hSw); go_simp; (try with_reducible rfl)
                try simp only [Act.put, List.getElem_toArray, List.getElem_cons_succ, List.getElem_cons_zero, List.setIfInBounds_toArray, List.set_cons_zero, List.set_cons_succ]
                refine wpAnyH_take (i := 15) (v := ?v15_141) rfl (by kernel_rfl) (by kernel_rfl) (by kernel_rfl) (fun _ _ _ h => h) (Or.inl ⟨by rfl, ?hy15_141⟩) (by assumption) ?rest15_141
                case hy15_141 => intro w hSw; (try dsimp only at hSw); go_simp; (try with_reducible rfl)
                try simp only [Act.put, List.getElem_toArray, List.getElem_cons_succ, List.getElem_cons_zero, List.setIfInBounds_toArray, List.set_cons_zero, List.set_cons_succ]
                refine wpAnyH_take (i := 16) (v := ?v16_142) rfl (by kernel_rfl) (by kernel_rfl) (by kernel_rfl) (fun _ _ _ h => h) (Or.inl ⟨by rfl, ?hy16_142⟩) (by assumption) ?rest16_142
                case hy16_142 => intro w hSw; (try dsimp only at hSw); go_simp; (try with_reducible rfl)
                try simp only [Act.put, List.getElem_toArray, List.getElem_cons_succ, List.getElem_cons_zero, List.setIfInBounds_toArray, List.set_cons_zero, List.set_cons_succ]
                refine wpAnyH_take (i := 17) (v := ?v17_143) rfl (by kernel_rfl) (by kernel_rfl) (by kernel_rfl) (fun _ _ _ h => h) (Or.inl ⟨by rfl, ?hy17_143⟩) (by assumption) ?rest17_143
                case hy17_143 => intro w hSw; (try dsimp only at hSw); go_simp; (try with_reducible rfl)
                try simp only [Act.put, List.getElem_toArray, List.getElem_cons_succ, List.getElem_cons_zero, List.setIfInBounds_toArray, List.set_cons_zero, List.set_cons_succ]
                refine wpAnyH_take (i := 19) (v := ?v19_144) rfl (by kernel_rfl) (by kernel_rfl) (by kernel_rfl) (fun _ _ _ h => h) (Or.inl ⟨by rfl, ?hy19_144⟩) (by assumption) ?rest19_144
                case hy19_144 => intro w hSw; (try dsimp only at hSw); go_simp; (try with_reducible rfl)
                try simp only [Act.put, List.getElem_toArray, List.getElem_cons_succ, List.getElem_cons_zero, List.setIfInBounds_toArray, List.set_cons_zero, List.set_cons_succ]
                refine wpAnyH_ready (rs := [18]) (by kernel_rfl) (by simp) ?_
                refine AllReadyH.cons rfl (fun K9 hK9 => ?_) AllReadyH.nil
                go_simp
                refine (norm_impl _ _ _ xs 1 _ (iA.below hbR)).mono ?_
                rintro e wN ⟨rfl, e9⟩
                rw [HNT.out]
                have hbN : Below wz.heap.size wz wN := by rw [← e9]; exact hbR
                clear e9
                refine hK9.out _ _ ?_ (fun hHeld => ?_)
                · exact hbN
                clear hK9 K9
                try simp only [Act.put, List.getElem_toArray, List.getElem_cons_succ, List.getElem_cons_zero, List.setIfInBounds_toArray, List.set_cons_zero, List.set_cons_succ]
                refine wpAnyH_ready (rs := [20]) (by kernel_rfl) (by simp) ?_
                refine AllReadyH.cons rfl (fun K9 hK9 => ?_) AllReadyH.nil
                go_simp
                refine (seqTotal_impl _ _ _ xs _ (iA.below hbN)).mono ?_
                rintro e wM ⟨rfl, e9⟩
                have hbM : Below wz.heap.size wz wM := by rw [← e9]; exact hbN
                clear e9
                refine hK9.out _ _ ?_ (fun hHeld => ?_)
                · exact hbM
                clear hK9 K9
                try simp only [Act.put, List.getElem_toArray, List.getElem_cons_succ, List.getElem_cons_zero, List.setIfInBounds_toArray, List.set_cons_zero, List.set_cons_succ]
                refine wpAnyH_take (i := 21) (v := ?v21_145) rfl (by kernel_rfl) (by kernel_rfl) (by kernel_rfl) (fun _ _ _ h => h) (Or.inl ⟨by rfl, ?hy21_145⟩) (by assumption) ?rest21_145
                case hy21_145 => intro w hSw; (try dsimp only at hSw); go_simp; (try with_reducible rfl)
                try simp only [Act.put, List.getElem_toArray, List.getElem_cons_succ, List.getElem_cons_zero, List.setIfInBounds_toArray, List.set_cons_zero, List.set_cons_succ]
                refine wpAnyH_take (i := 22) (v := ?v22_146) rfl (by kernel_rfl) (by kernel_rfl) (by kernel_rfl) (fun _ _ _ h => h) (Or.inl ⟨by rfl, ?hy22_146⟩) (by assumption) ?rest22_146
                case hy22_146 => intro w hSw; (try dsimp only at hSw); go_simp; (try with_reducible rfl)
                try simp only [Act.put, List.getElem_toArray, List.getElem_cons_succ, List.getElem_cons_zero, List.setIfInBounds_toArray, List.set_cons_zero, List.set_cons_succ]
                refine wpAnyH_take (i := 23) (v := ?v23_147) rfl (by kernel_rfl) (by kernel_rfl) (by kernel_rfl) (fun _ _ _ h => h) (Or.inl ⟨by rfl, ?hy23_147⟩) (by assumption) ?rest23_147
                case hy23_147 => intro w hSw; (try dsimp only at hSw); go_simp; (try with_reducible rfl)
                try simp only [Act.put, List.getElem_toArray, List.getElem_cons_succ, List.getElem_cons_zero, List.setIfInBounds_toArray, List.set_cons_zero, List.set_cons_succ]
                refine wpAnyH_done (by kernel_rfl) ?_ _
                refine NoPanic.normal ?_
                go_wp2_with fail
                go_ret
                exact ⟨ret_bool (by simp), hb60.trans (hbM.mono (by omega))⟩
            · skip
              go_simp
              have oL2 : Own oI wz.heap.size (wz.heap.size + 1) ((wz.alloc (.cells #[.int .i64 0] 3)).drew) [.slice (some ⟨wz.heap.size, 0, none⟩) 1 1] [0] := (own_lit1 (W := wz) (by constructor <;> decide)).below ((Below.refl _ _).drew) (Nat.le_refl _)
              obtain ⟨wv148, hw148⟩ : ∃ W, W = (wz.alloc (.cells #[.int .i64 0] 3)).drew := ⟨_, rfl⟩
              rw [← hw148] at oL2 ⊢
              have zv148 : Below wz.heap.size wz wv148 := by rw [hw148]; exact ((Below.refl _ _).alloc (Nat.le_refl _) _).drew
              have sv148 : wv148.heap.size = wz.heap.size + 1 := by rw [hw148]; simp
              replace sv148 := Nat.le_of_eq sv148.symm
              clear hw148
              have hv148 := zv148
              refine hK9.out _ _ ?_ (fun hHeld => ?_)
              · exact hv148
              clear hK9 K9
              try simp only [Act.put, List.getElem_toArray, List.getElem_cons_succ, List.getElem_cons_zero, List.setIfInBounds_toArray, List.set_cons_zero, List.set_cons_succ]
              refine wpAnyH_ready (rs := [2]) (by kernel_rfl) (by simp) ?_
              refine AllReadyH.cons rfl (fun K9 hK9 => ?_) AllReadyH.nil
              go_simp
              have oL1 : Own oI wv148.heap.size (wv148.heap.size + 1) (wv148.alloc (.cells #[.int .i64 0] 3)) [.slice (some ⟨wv148.heap.size, 0, none⟩) 1 1] [0] := own_lit1 (W := wv148) (by constructor <;> decide)
              obtain ⟨wv149, hw149⟩ : ∃ W, W = wv148.alloc (.cells #[.int .i64 0] 3) := ⟨_, rfl⟩
              rw [← hw149] at oL1 ⊢
              have zv149 : Below wv148.heap.size wv148 wv149 := by rw [hw149]; exact (Below.refl _ _).alloc (Nat.le_refl _) _
              have sv149 : wv149.heap.size = wv148.heap.size + 1 := by rw [hw149]; simp
              replace sv149 := Nat.le_of_eq sv149.symm
              clear hw149
              replace oL2 := oL2.below zv149 (by omega)
              have hv149 := on hv148 zv149
              refine hK9.out _ _ ?_ (fun hHeld => ?_)
              · exact hv149
              clear hK9 K9
              try simp only [Act.put, List.getElem_toArray, List.getElem_cons_succ, List.getElem_cons_zero, List.setIfInBounds_toArray, List.set_cons_zero, List.set_cons_succ]
              refine wpAnyH_ready (rs := [3]) (by kernel_rfl) (by simp) ?_
              refine AllReadyH.cons rfl (fun K9 hK9 => ?_) AllReadyH.nil
              go_simp
              refine (degSeq_spec _ _ t [0] _ (HTR.out _ hv149) (oL1.rd reads_I)).mono ?_
              rintro e wv150 ⟨db150, dn150, dc150, rfl, oD1, zv150⟩
              have sv150 := zv150.size
              replace oL1 := oL1.below zv150 (by omega)
              replace oL2 := oL2.below zv150 (by omega)
              have hv150 := on hv149 zv150
              refine hK9.out _ _ ?_ (fun hHeld => ?_)
              · exact hv150
              clear hK9 K9
              try simp only [Act.put, List.getElem_toArray, List.getElem_cons_succ, List.getElem_cons_zero, List.setIfInBounds_toArray, List.set_cons_zero, List.set_cons_succ]
              refine wpAnyH_ready (rs := [6]) (by kernel_rfl) (by simp) ?_
              refine AllReadyH.cons rfl (fun K9 hK9 => ?_) AllReadyH.nil
              go_simp
              refine (degSeq_spec _ _ u [0] _ (HUR.out _ hv150) (oL2.rd reads_I)).mono ?_
              rintro e wv151 ⟨db151, dn151, dc151, rfl, oD2, zv151⟩
              have sv151 := zv151.size
              replace oD1 := oD1.below zv151 (by omega)
              replace oL1 := oL1.below zv151 (by omega)
              replace oL2 := oL2.below zv151 (by omega)
              have hv151 := on hv150 zv151
              refine hK9.out _ _ ?_ (fun hHeld => ?_)
              · exact hv151
              clear hK9 K9
              try simp only [Act.put, List.getElem_toArray, List.getElem_cons_succ, List.getElem_cons_zero, List.setIfInBounds_toArray, List.set_cons_zero, List.set_cons_succ]
              refine wpAnyH_ready (rs := [7]) (by kernel_rfl) (by simp) ?_
              refine AllReadyH.cons rfl (fun K9 hK9 => ?_) AllReadyH.nil
              go_simp
              refine (pairBound_impl _ _ _ _ _ _ _ _ _ (rI_open9 (oD1.rd reads_I)).2.2.2 (rI_open9 (oD2.rd reads_I)).2.2.2).mono ?_
              rintro e wP ⟨rfl, zP0⟩
              have zP := zP0.below wv151.heap.size
              have hbP := on hv151 zP
              obtain ⟨PB, hPB⟩ : ∃ q, pairBound (degSeq t [0]) (degSeq u [0]) = q := ⟨_, rfl⟩
              have hle := HJB.out
              rw [hPB] at hle
              rw [hPB]
              clear hPB zP0
              refine hK9.out _ _ ?_ (fun hHeld => ?_)
              · exact hbP
              clear hK9 K9
              try simp only [Act.put, List.getElem_toArray, List.getElem_cons_succ, List.getElem_cons_zero, List.setIfInBounds_toArray, List.set_cons_zero, List.set_cons_succ]
              refine wpAnyH_take (i := 8) (v := ?v8_152) rfl (by kernel_rfl) (by kernel_rfl) (by kernel_rfl) (fun _ _ _ h => h) (Or.inl ⟨by rfl, ?hy8_152⟩) (by assumption) ?rest8_152
              case hy8_152 => intro w hSw; (try dsimp only at hSw); go_simp; (try with_reducible rfl)
              try simp only [Act.put, List.getElem_toArray, List.getElem_cons_succ, List.getElem_cons_zero, List.setIfInBounds_toArray, List.set_cons_zero, List.set_cons_succ]
              refine wpAnyH_take (i := 9) (v := ?v9_153) rfl (by kernel_rfl) (by kernel_rfl) (by kernel_rfl) (fun _ _ _ h => h) (Or.inl ⟨by rfl, ?hy9_153⟩) (by assumption) ?rest9_153
              case hy9_153 => intro w hSw; (try dsimp only at hSw); go_simp; (try with_reducible rfl)
              try simp only [Act.put, List.getElem_toArray, List.getElem_cons_succ, List.getElem_cons_zero, List.setIfInBounds_toArray, List.set_cons_zero, List.set_cons_succ]
              refine wpAnyH_take (i := 10) (v := ?v10_154) rfl (by kernel_rfl) (by kernel_rfl) (by kernel_rfl) (fun _ _ _ h => h) (Or.inl ⟨by rfl, ?hy10_154⟩) (by assumption) ?rest10_154
              case hy10_154 => intro w hSw; (try dsimp only at hSw); go_simp; (try with_reducible rfl)
              try simp only [Act.put, List.getElem_toArray, List.getElem_cons_succ, List.getElem_cons_zero, List.setIfInBounds_toArray, List.set_cons_zero, List.set_cons_succ]
              refine wpAnyH_take (i := 11) (v := ?v11_155) rfl (by kernel_rfl) (by kernel_rfl) (by kernel_rfl) (fun _ _ _ h => h) (Or.inl ⟨by rfl, ?hy11_155⟩) (by assumption) ?rest11_155
              case hy11_155 => intro w hSw; (try dsimp only at hSw); go_simp; (try with_reducible rfl)
              try simp only [Act.put, List.getElem_toArray, List.getElem_cons_succ, List.getElem_cons_zero, List.setIfInBounds_toArray, List.set_cons_zero, List.set_cons_succ]
              refine wpAnyH_take (i := 12) (v := ?v12_156) rfl (by kernel_rfl) (by kernel_rfl) (by kernel_rfl) (fun _ _ _ h => h) (Or.inl ⟨by rfl, ?hy12_156⟩) (by assumption) ?rest12_156
              case hy12_156 => intro w hSw; (try dsimp only at hSw); go_simp; (try with_reducible rfl)
              try simp only [Act.put, List.getElem_toArray, List.getElem_cons_succ, List.getElem_cons_zero, List.setIfInBounds_toArray, List.set_cons_zero, List.set_cons_succ]
              refine wpAnyH_ready (rs := [13]) (by kernel_rfl) (by simp) ?_
              refine AllReadyH.cons rfl (fun K9 hK9 => ?_) AllReadyH.nil
              go_simp
              refine (root_spec _ _ _).mono ?_
              rintro e wR ⟨rfl, e9⟩
              rw [hr9]
              have hbR : Below wz.heap.size wz wR := by rw [← e9]; exact hbP
              clear e9
              refine hK9.out _ _ ?_ (fun hHeld => ?_)
              · exact hbR
              clear hK9 K9
              try simp only [Act.put, List.getElem_toArray, List.getElem_cons_succ, List.getElem_cons_zero, List.setIfInBounds_toArray, List.set_cons_zero, List.set_cons_succ]
              refine wpAnyH_take (i := 14) (v := ?v14_157) rfl (by kernel_rfl) (by kernel_rfl) (by kernel_rfl) (fun _ _ _ h => h) (Or.inl ⟨by rfl, ?hy14_157⟩) (by assumption) ?rest14_157
              case hy14_157 => intro w hSw; (try dsimp only at hSw); go_simp; (try with_reducible rfl)
              try simp only [Act.put, List.getElem_toArray, List.getElem_cons_succ, List.getElem_cons_zero, List.setIfInBounds_toArray, List.set_cons_zero, List.set_cons_succ]
              refine wpAnyH_take (i := 15) (v := ?v15_158) rfl (by kernel_rfl) (by kernel_rfl) (by kernel_rfl) (fun _ _ _ h => h) (Or.inl ⟨by rfl, ?hy15_158⟩) (by assumption) ?rest15_158
              case hy15_158 => intro w hSw; (try dsimp only at hSw); go_simp; (try with_reducible rfl)
              try simp only [Act.put, List.getElem_toArray, List.getElem_cons_succ, List.getElem_cons_zero, List.setIfInBounds_toArray, List.set_cons_zero, List.set_cons_succ]
              refine wpAnyH_take (i := 16) (v := ?v16_159) rfl (by kernel_rfl) (by kernel_rfl) (by kernel_rfl) (fun _ _ _ h => h) (Or.inl ⟨by rfl, ?hy16_159⟩) (by assumption) ?rest16_159
              case hy16_159 => intro w hSw; (try dsimp only at hSw); go_simp; (try with_reducible rfl)
              try simp only [Act.put, List.getElem_toArray, List.getElem_cons_succ, List.getElem_cons_zero, List.setIfInBounds_toArray, List.set_cons_zero, List.set_cons_succ]
              refine wpAnyH_take (i := 17) (v := ?v17_160) rfl (by kernel_rfl) (by kernel_rfl) (by kernel_rfl) (fun _ _ _ h => h) (Or.inl ⟨by rfl, ?hy17_160⟩) (by assumption) ?rest17_160
              case hy17_160 => intro w hSw; (try dsimp only at hSw); go_simp; (try with_reducible rfl)
              try simp only [Act.put, List.getElem_toArray, List.getElem_cons_succ, List.getElem_cons_zero, List.setIfInBounds_toArray, List.set_cons_zero, List.set_cons_succ]
              refine wpAnyH_take (i := 19) (v := ?v19_161) rfl (by kernel_rfl) (by kernel_rfl) (by kernel_rfl) (fun _ _ _ h => h) (Or.inl ⟨by rfl, ?hy19_161⟩) (by assumption) ?rest19_161
              case hy19_161 => intro w hSw; (try dsimp only at hSw); go_simp; (try with_reducible rfl)
              try simp only [Act.put, List.getElem_toArray, List.getElem_cons_succ, List.getElem_cons_zero, List.setIfInBounds_toArray, List.set_cons_zero, List.set_cons_succ]
              refine wpAnyH_ready (rs := [18]) (by kernel_rfl) (by simp) ?_
              refine AllReadyH.cons rfl (fun K9 hK9 => ?_) AllReadyH.nil
              go_simp
              refine (norm_impl _ _ _ xs 1 _ (iA.below hbR)).mono ?_
              rintro e wN ⟨rfl, e9⟩
              rw [HNT.out]
              have hbN : Below wz.heap.size wz wN := by rw [← e9]; exact hbR
              clear e9
              refine hK9.out _ _ ?_ (fun hHeld => ?_)
              · exact hbN
              clear hK9 K9
              try simp only [Act.put, List.getElem_toArray, List.getElem_cons_succ, List.getElem_cons_zero, List.setIfInBounds_toArray, List.set_cons_zero, List.set_cons_succ]
              refine wpAnyH_ready (rs := [20]) (by kernel_rfl) (by simp) ?_
              refine AllReadyH.cons rfl (fun K9 hK9 => ?_) AllReadyH.nil
              go_simp
              refine (seqTotal_impl _ _ _ xs _ (iA.below hbN)).mono ?_
              rintro e wM ⟨rfl, e9⟩
              have hbM : Below wz.heap.size wz wM := by rw [← e9]; exact hbN
              clear e9
              refine hK9.out _ _ ?_ (fun hHeld => ?_)
              · exact hbM
              clear hK9 K9
              try simp only [Act.put, List.getElem_toArray, List.getElem_cons_succ, List.getElem_cons_zero, List.setIfInBounds_toArray, List.set_cons_zero, List.set_cons_succ]
              refine wpAnyH_take (i := 21) (v := ?v21_162) rfl (by kernel_rfl) (by kernel_rfl) (by kernel_rfl) (fun _ _ _ h => h) (Or.inl ⟨by rfl, ?hy21_162⟩) (by assumption) ?rest21_162
              case hy21_162 => intro w hSw; (try dsimp only at hSw); go_simp; (try with_reducible rfl)
              try simp only [Act.put, List.getElem_toArray, List.getElem_cons_succ, List.getElem_cons_zero, List.setIfInBounds_toArray, List.set_cons_zero, List.set_cons_succ]
              refine wpAnyH_take (i := 22) (v := ?v22_163) rfl (by kernel_rfl) (by kernel_rfl) (by kernel_rfl) (fun _ _ _ h => h) (Or.inl ⟨by rfl, ?hy22_163⟩) (by assumption) ?rest22_163
              case hy22_163 => intro w hSw; (try dsimp only at hSw); go_simp; (try with_reducible rfl)
              try simp only [Act.put, List.getElem_toArray, List.getElem_cons_succ, List.getElem_cons_zero, List.setIfInBounds_toArray, List.set_cons_zero, List.set_cons_succ]
              refine wpAnyH_take (i := 23) (v := ?v23_164) rfl (by kernel_rfl) (by kernel_rfl) (by kernel_rfl) (fun _ _ _ h => h) (Or.inl ⟨by rfl, ?hy23_164⟩) (by assumption) ?rest23_164
              case hy23_164 => intro w hSw; (try dsimp only at hSw); go_simp; (try with_reducible rfl)
              try simp only [Act.put, List.getElem_toArray, List.getElem_cons_succ, List.getElem_cons_zero, List.setIfInBounds_toArray, List.set_cons_zero, List.set_cons_succ]
              refine wpAnyH_done (by kernel_rfl) ?_ _
              refine NoPanic.normal ?_
              go_wp2_with fail
              go_ret
              exact ⟨ret_bool (by simp), hb60.trans (hbM.mono (by omega))⟩
      · have hv9 : validT u = false := by simpa using hvu
        rw [hv9]
        go_wp2_with fail
        go_ret
        exact ⟨rfl, hb57⟩
    · have hv9 : validT t = false := by simpa using hvt
      rw [hv9]
      go_wp2_with fail
      go_ret
      exact ⟨rfl, hb55⟩

end Go.Proofs.Ytehcjdbljdpmbaa
