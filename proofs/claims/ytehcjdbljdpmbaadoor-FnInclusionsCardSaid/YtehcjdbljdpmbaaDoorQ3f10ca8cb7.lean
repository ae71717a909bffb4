/- Texts joined for one claim: IncF, ParI. -/
import Derived.Test.YtehcjdbljdpmbaaDoorQe5dc8a5427
import Derived.Test.YtehcjdbljdpmbaaDoorQad38381d49
import Derived.Test.YtehcjdbljdpmbaaDoorQ6c56f77fd6
import Derived.Test.YtehcjdbljdpmbaaDoorQ749eee4b15
import Derived.Deep.RegionHeld3

/- Contracts: inclusions as texts, both ways. -/
namespace Go.Proofs.YtehcjdbljdpmbaaDoor
open Go.RowKit
set_option linter.unusedVariables false
set_option linter.unusedSimpArgs false
set_option synthInstance.maxSize 2000
set_option synthInstance.maxHeartbeats 400000

theorem bs_of' (s : ByteArray) : bs s.data.toList = s := by
  apply ByteArray.ext
  simp [bs]
theorem name_len' {ml : List UInt8} (h : nameB (bs ml) = true) : ml.length = 1 := by
  simp only [nameB, Bool.and_eq_true, decide_eq_true_eq] at h
  have := h.1
  rwa [bs_size] at this
theorem dec_one {d : Nat} (h : d ≤ 9) : Lib.decDigits d = [chD (d : Int)] := by
  rcases (by omega : d = 0 ∨ d = 1 ∨ d = 2 ∨ d = 3 ∨ d = 4 ∨ d = 5 ∨ d = 6 ∨ d = 7 ∨ d = 8 ∨ d = 9) with rfl | rfl | rfl | rfl | rfl | rfl | rfl | rfl | rfl | rfl <;> decide +kernel
theorem fmtI_dig (d : Nat) (hd : d ≤ 9) (w : World) :
    Calls Tryd.prog 72 #[.int .i64 (d : Int)] w fun e w' => e = .returned (.string (bs [chD (d : Int)])) ∧ Below w.heap.size w w' := by
  have HI := Lib.hid (Tryd.strconv_Itoa_small d (by omega) w)
  rw [dec_one hd] at HI
  go_enter Tryd.func72, Tryd.ntmps72
  go_wp2_with fail
  refine HI.out.mono ?_
  rintro e w' ⟨rfl, rfl⟩
  go_wp2_with fail
  go_ret
  exact ⟨by rfl, Below.refl _ _⟩
theorem isCol_any (v : Int) (w : World) :
    Calls Tryd.prog 71 #[.int .i64 v] w fun e w' => e = .returned (.bool (betw v 0 2)) ∧ w = w' := by
  have HI := Lib.hid (within_any v 0 2 w)
  go_enter Tryd.func71, Tryd.ntmps71
  go_wp2_with fail
  refine HI.out.mono ?_
  rintro e w' ⟨rfl, rfl⟩
  go_wp2_with fail
  go_ret
  exact ⟨by rfl, rfl⟩
/-- The text of an inclusion. -/
def okIn (x : DIn) : Bool := nameB x.1 && (nameB x.2.2.1 && (betw x.2.1 0 2 && betw x.2.2.2 0 2))
def fmtIn (x : DIn) : List UInt8 := if okIn x then x.1.data.toList ++ [chD x.2.1] ++ [60] ++ x.2.2.1.data.toList ++ [chD x.2.2.2] else []

set_option maxRecDepth 100000 in
set_option maxHeartbeats 2000000 in
theorem fmtIn_impl (cs : List Value) (x : DIn) (w : World) (h : rIn.rep w cs x) :
    Calls Tryd.prog 34 #[.agg cs.toArray] w fun e w' => e = .returned (.string (bs (fmtIn x))) ∧ Below w.heap.size w w' := by
  obtain ⟨rfl, hs0, hi1, hs2, hi3⟩ := rIn_open h
  obtain ⟨m1, c1, m2, c2⟩ := x
  simp only at hs0 hi1 hs2 hi3
  have HF : Hid (fmtIn (m1, c1, m2, c2) = if (nameB m1 && (nameB m2 && (betw c1 0 2 && betw c2 0 2))) then m1.data.toList ++ [chD c1] ++ [60] ++ m2.data.toList ++ [chD c2] else []) := rfl
  have H1 := Lib.hid (fun W => nameOk_any m1 W hs0)
  have H2 := Lib.hid (fun W => nameOk_any m2 W hs2)
  have H3 := Lib.hid (fun W => isCol_any c1 W)
  have H4 := Lib.hid (fun W => isCol_any c2 W)
  obtain ⟨b1, hb1⟩ : ∃ b, nameB m1 = b := ⟨_, rfl⟩
  obtain ⟨b2, hb2⟩ : ∃ b, nameB m2 = b := ⟨_, rfl⟩
  obtain ⟨b3, hb3⟩ : ∃ b, betw c1 0 2 = b := ⟨_, rfl⟩
  obtain ⟨b4, hb4⟩ : ∃ b, betw c2 0 2 = b := ⟨_, rfl⟩
  rw [hb1, hb2, hb3, hb4] at HF
  simp only [hb1] at H1
  simp only [hb2] at H2
  simp only [hb3] at H3
  simp only [hb4] at H4
  obtain ⟨R, hR⟩ : ∃ R, fmtIn (m1, c1, m2, c2) = R := ⟨_, rfl⟩
  rw [hR] at HF ⊢
  have HB1 := Lib.hid hb1
  have HB2 := Lib.hid hb2
  have HB3 := Lib.hid hb3
  have HB4 := Lib.hid hb4
  clear h hR hb1 hb2 hb3 hb4
  have hb0 : Below w.heap.size w w := Below.refl _ _
  go_enter Tryd.func34, Tryd.ntmps34
  obtain ⟨w1, hw1⟩ : ∃ W, W = w.alloc (.cells #[.string m1, .int .i64 c1, .string m2, .int .i64 c2] 51) := ⟨_, rfl⟩
  have z1 : Below w.heap.size w w1 := by rw [hw1]; exact (Below.refl _ _).alloc (Nat.le_refl _) _
  have s1 : w1.heap.size = w.heap.size + 1 := by rw [hw1]; simp
  have hb1 := on hb0 z1
  have x_0 : w1.cell? ⟨w.heap.size, 0, none⟩ = some (.string m1) := by rw [hw1]; exact box_cell (Below.refl _ _) rfl
  have x_1 : w1.cell? ⟨w.heap.size, 1, none⟩ = some (.int .i64 c1) := by rw [hw1]; exact box_cell (Below.refl _ _) rfl
  have x_2 : w1.cell? ⟨w.heap.size, 2, none⟩ = some (.string m2) := by rw [hw1]; exact box_cell (Below.refl _ _) rfl
  have x_3 : w1.cell? ⟨w.heap.size, 3, none⟩ = some (.int .i64 c2) := by rw [hw1]; exact box_cell (Below.refl _ _) rfl
  have raw1_x_0 := x_0
  have raw1_x_1 := x_1
  have raw1_x_2 := x_2
  have raw1_x_3 := x_3
  rw [hw1] at raw1_x_0 raw1_x_1 raw1_x_2 raw1_x_3
  go_wp2_with fail
  rw [← hw1]
  clear hw1
  clear raw1_x_0 raw1_x_1 raw1_x_2 raw1_x_3
  refine (H1.out _).mono ?_
  rintro e w' ⟨rfl, rfl⟩
  cases b1 with
  | false =>
    have HE : Hid (R = []) := Lib.hid (by rw [HF.out]; simp)
    go_wp2_with fail
    go_ret
    exact ⟨by rw [HE.out]; rfl, hb1⟩
  | true =>
    go_wp2_with fail
    refine (H2.out _).mono ?_
    rintro e w' ⟨rfl, rfl⟩
    cases b2 with
    | false =>
      have HE : Hid (R = []) := Lib.hid (by rw [HF.out]; simp)
      go_wp2_with fail
      go_ret
      exact ⟨by rw [HE.out]; rfl, hb1⟩
    | true =>
      go_wp2_with fail
      refine (H3.out _).mono ?_
      rintro e w' ⟨rfl, rfl⟩
      cases b3 with
      | false =>
        have HE : Hid (R = []) := Lib.hid (by rw [HF.out]; simp)
        go_wp2_with fail
        go_ret
        exact ⟨by rw [HE.out]; rfl, hb1⟩
      | true =>
        go_wp2_with fail
        refine (H4.out _).mono ?_
        rintro e w' ⟨rfl, rfl⟩
        cases b4 with
        | false =>
          have HE : Hid (R = []) := Lib.hid (by rw [HF.out]; simp)
          go_wp2_with fail
          go_ret
          exact ⟨by rw [HE.out]; rfl, hb1⟩
        | true =>
          have HE : Hid (R = m1.data.toList ++ [chD c1] ++ [60] ++ m2.data.toList ++ [chD c2]) := Lib.hid (by rw [HF.out]; rfl)
          obtain ⟨ml, rfl⟩ : ∃ ml, m1 = bs ml := ⟨_, (bs_of' m1).symm⟩
          obtain ⟨nl, rfl⟩ : ∃ nl, m2 = bs nl := ⟨_, (bs_of' m2).symm⟩
          have hl1 := name_len' HB1.out
          have hl2 := name_len' HB2.out
          have h3 := HB3.out
          have h4 := HB4.out
          simp only [betw, Bool.and_eq_true, decide_eq_true_eq] at h3 h4
          obtain ⟨d1, rfl⟩ := Int.eq_ofNat_of_zero_le h3.1
          obtain ⟨d2, rfl⟩ := Int.eq_ofNat_of_zero_le h4.1
          have HI1 := Lib.hid (fun W => fmtI_dig d1 (by omega) W)
          have HI2 := Lib.hid (fun W => fmtI_dig d2 (by omega) W)
          obtain ⟨q1, hq1⟩ : ∃ q, chD (d1 : Int) = q := ⟨_, rfl⟩
          obtain ⟨q2, hq2⟩ : ∃ q, chD (d2 : Int) = q := ⟨_, rfl⟩
          rw [hq1] at HI1 HE
          rw [hq2] at HI2 HE
          have hRR : bs R = ((((bs ml ++ bs [q1]) ++ ByteArray.mk #[60]) ++ bs nl) ++ bs [q2]) := by rw [HE.out, ← bs_app, ← bs_app, ← bs_app, ← bs_app]
          clear h3 h4 hq1 hq2 HF H1 H2 H3 H4 HB1 HB2 HB3 HB4
          go_wp2_with fail
          refine wp_region_noPanic ?_
          refine wp_region_held_drew (S := (fun W => W.cell? ⟨w.heap.size, 0, none⟩ = some (.string (bs ml)) ∧ W.cell? ⟨w.heap.size, 1, none⟩ = some (.int .i64 (d1 : Int)) ∧ W.cell? ⟨w.heap.size, 2, none⟩ = some (.string (bs nl)) ∧ W.cell? ⟨w.heap.size, 3, none⟩ = some (.int .i64 (d2 : Int)))) (by kernel_rfl) ?hS2 (fun hHeld => ?_)
          case hS2 => exact ⟨x_0, x_1, x_2, x_3⟩
          refine wpAnyH_take (i := 0) (v := ?v0_3) rfl (by kernel_rfl) (by kernel_rfl) (by kernel_rfl) (fun _ _ _ h => h) (Or.inl ⟨by rfl, ?hy0_3⟩) (by assumption) ?rest0_3
          case hy0_3 => intro w hSw; (try dsimp only at hSw); go_simp; (try with_reducible rfl)
          try simp only [Act.put, List.getElem_toArray, List.getElem_cons_succ, List.getElem_cons_zero, List.setIfInBounds_toArray, List.set_cons_zero, List.set_cons_succ]
          refine wpAnyH_take (i := 1) (v := ?v1_4) rfl (by kernel_rfl) (by kernel_rfl) (by kernel_rfl) (fun _ _ _ h => h) (Or.inl ⟨by rfl, ?hy1_4⟩) (by assumption) ?rest1_4
          case hy1_4 => intro w hSw; (try dsimp only at hSw); go_simp; (try with_reducible rfl)
          try simp only [Act.put, List.getElem_toArray, List.getElem_cons_succ, List.getElem_cons_zero, List.setIfInBounds_toArray, List.set_cons_zero, List.set_cons_succ]
          refine wpAnyH_take (i := 2) (v := ?v2_5) rfl (by kernel_rfl) (by kernel_rfl) (by kernel_rfl) (fun _ _ _ h => h) (Or.inl ⟨by rfl, ?hy2_5⟩) (by assumption) ?rest2_5
          case hy2_5 => intro w hSw; (try dsimp only at hSw); go_simp; (try with_reducible rfl)
          try simp only [Act.put, List.getElem_toArray, List.getElem_cons_succ, List.getElem_cons_zero, List.setIfInBounds_toArray, List.set_cons_zero, List.set_cons_succ]
          refine wpAnyH_take (i := 3) (v := ?v3_6) rfl (by kernel_rfl) (by kernel_rfl) (by kernel_rfl) (fun _ _ _ h => h) (Or.inl ⟨by rfl, ?hy3_6⟩) (by assumption) ?rest3_6
          case hy3_6 => intro w hSw; (try dsimp only at hSw); go_simp; (try with_reducible rfl)
          try simp only [Act.put, List.getElem_toArray, List.getElem_cons_succ, List.getElem_cons_zero, List.setIfInBounds_toArray, List.set_cons_zero, List.set_cons_succ]
          refine wpAnyH_take (i := 7) (v := ?v7_7) rfl (by kernel_rfl) (by kernel_rfl) (by kernel_rfl) (fun _ _ _ h => h) (Or.inl ⟨by rfl, ?hy7_7⟩) (by assumption) ?rest7_7
          case hy7_7 => intro w hSw; (try dsimp only at hSw); go_simp; (try with_reducible rfl)
          try simp only [Act.put, List.getElem_toArray, List.getElem_cons_succ, List.getElem_cons_zero, List.setIfInBounds_toArray, List.set_cons_zero, List.set_cons_succ]
          refine wpAnyH_take (i := 8) (v := ?v8_8) rfl (by kernel_rfl) (by kernel_rfl) (by kernel_rfl) (fun _ _ _ h => h) (Or.inl ⟨by rfl, ?hy8_8⟩) (by assumption) ?rest8_8
          case hy8_8 => intro w hSw; (try dsimp only at hSw); go_simp; (try with_reducible rfl)
          try simp only [Act.put, List.getElem_toArray, List.getElem_cons_succ, List.getElem_cons_zero, List.setIfInBounds_toArray, List.set_cons_zero, List.set_cons_succ]
          refine wpAnyH_take (i := 10) (v := ?v10_9) rfl (by kernel_rfl) (by kernel_rfl) (by kernel_rfl) (fun _ _ _ h => h) (Or.inl ⟨by rfl, ?hy10_9⟩) (by assumption) ?rest10_9
          case hy10_9 => intro w hSw; (try dsimp only at hSw); go_simp; (try with_reducible rfl)
          try simp only [Act.put, List.getElem_toArray, List.getElem_cons_succ, List.getElem_cons_zero, List.setIfInBounds_toArray, List.set_cons_zero, List.set_cons_succ]
          refine wpAnyH_take (i := 11) (v := ?v11_10) rfl (by kernel_rfl) (by kernel_rfl) (by kernel_rfl) (fun _ _ _ h => h) (Or.inl ⟨by rfl, ?hy11_10⟩) (by assumption) ?rest11_10
          case hy11_10 => intro w hSw; (try dsimp only at hSw); go_simp; (try with_reducible rfl)
          try simp only [Act.put, List.getElem_toArray, List.getElem_cons_succ, List.getElem_cons_zero, List.setIfInBounds_toArray, List.set_cons_zero, List.set_cons_succ]
          refine wpAnyH_ready (rs := [4]) (by kernel_rfl) (by simp) ?_
          refine AllReadyH.cons rfl (fun K hK => ?_) AllReadyH.nil
          go_simp; (refine (HI1.out _).mono ?_); rintro e wA ⟨rfl, zA⟩; replace zA : Below w1.heap.size w1 wA := on (Below.refl _ _).drew zA; have sA := zA.size; have hbA := on hb1 zA; have hSA := (⟨(zA.cell (p := ⟨w.heap.size, 0, none⟩) (by simp only []; omega)).trans x_0, (zA.cell (p := ⟨w.heap.size, 1, none⟩) (by simp only []; omega)).trans x_1, (zA.cell (p := ⟨w.heap.size, 2, none⟩) (by simp only []; omega)).trans x_2, (zA.cell (p := ⟨w.heap.size, 3, none⟩) (by simp only []; omega)).trans x_3⟩ : (fun W => W.cell? ⟨w.heap.size, 0, none⟩ = some (.string (bs ml)) ∧ W.cell? ⟨w.heap.size, 1, none⟩ = some (.int .i64 (d1 : Int)) ∧ W.cell? ⟨w.heap.size, 2, none⟩ = some (.string (bs nl)) ∧ W.cell? ⟨w.heap.size, 3, none⟩ = some (.int .i64 (d2 : Int))) wA)
          refine hK.out _ _ ?_ (fun hHeld => ?_)
          · exact hSA
          clear hK K
          try simp only [Act.put, List.setIfInBounds_toArray, List.set_cons_zero, List.set_cons_succ]
          refine wpAnyH_take (i := 5) (v := ?v5xi) rfl (by kernel_rfl) (by kernel_rfl) (by kernel_rfl) (fun _ _ _ h => h) (Or.inl ⟨by rfl, ?hy5xi⟩) (by assumption) ?rest5xi
          case hy5xi => intro w hSw; (try dsimp only at hSw); go_simp; (first | (with_reducible rfl) | rfl | (split <;> first | rfl | (exfalso; omega)))
          try simp only [Act.put, List.getElem_toArray, List.getElem_cons_succ, List.getElem_cons_zero, List.setIfInBounds_toArray, List.set_cons_zero, List.set_cons_succ]
          refine wpAnyH_take (i := 6) (v := ?v6xi) rfl (by kernel_rfl) (by kernel_rfl) (by kernel_rfl) (fun _ _ _ h => h) (Or.inl ⟨by rfl, ?hy6xi⟩) (by assumption) ?rest6xi
          case hy6xi => intro w hSw; (try dsimp only at hSw); go_simp; (first | (with_reducible rfl) | rfl | (split <;> first | rfl | (exfalso; omega)))
          try simp only [Act.put, List.getElem_toArray, List.getElem_cons_succ, List.getElem_cons_zero, List.setIfInBounds_toArray, List.set_cons_zero, List.set_cons_succ]
          refine wpAnyH_take (i := 9) (v := ?v9xi) rfl (by kernel_rfl) (by kernel_rfl) (by kernel_rfl) (fun _ _ _ h => h) (Or.inl ⟨by rfl, ?hy9xi⟩) (by assumption) ?rest9xi
          case hy9xi => intro w hSw; (try dsimp only at hSw); go_simp; (first | (with_reducible rfl) | rfl | (split <;> first | rfl | (exfalso; omega)))
          try simp only [Act.put, List.getElem_toArray, List.getElem_cons_succ, List.getElem_cons_zero, List.setIfInBounds_toArray, List.set_cons_zero, List.set_cons_succ]
          refine wpAnyH_ready (rs := [12]) (by kernel_rfl) (by simp) ?_
          refine AllReadyH.cons rfl (fun K hK => ?_) AllReadyH.nil
          go_simp; (refine (HI2.out _).mono ?_); rintro e wB ⟨rfl, zB⟩; have sB := zB.size; have hbB := on hbA zB; have hSB := (⟨(zB.cell (p := ⟨w.heap.size, 0, none⟩) (by simp only []; omega)).trans hSA.1, (zB.cell (p := ⟨w.heap.size, 1, none⟩) (by simp only []; omega)).trans hSA.2.1, (zB.cell (p := ⟨w.heap.size, 2, none⟩) (by simp only []; omega)).trans hSA.2.2.1, (zB.cell (p := ⟨w.heap.size, 3, none⟩) (by simp only []; omega)).trans hSA.2.2.2⟩ : (fun W => W.cell? ⟨w.heap.size, 0, none⟩ = some (.string (bs ml)) ∧ W.cell? ⟨w.heap.size, 1, none⟩ = some (.int .i64 (d1 : Int)) ∧ W.cell? ⟨w.heap.size, 2, none⟩ = some (.string (bs nl)) ∧ W.cell? ⟨w.heap.size, 3, none⟩ = some (.int .i64 (d2 : Int))) wB)
          refine hK.out _ _ ?_ (fun hHeld => ?_)
          · exact hSB
          clear hK K
          try simp only [Act.put, List.setIfInBounds_toArray, List.set_cons_zero, List.set_cons_succ]
          refine wpAnyH_take (i := 13) (v := ?v13xi) rfl (by kernel_rfl) (by kernel_rfl) (by kernel_rfl) (fun _ _ _ h => h) (Or.inl ⟨by rfl, ?hy13xi⟩) (by assumption) ?rest13xi
          case hy13xi => intro w hSw; (try dsimp only at hSw); go_simp; (first | (with_reducible rfl) | rfl | (split <;> first | rfl | (exfalso; omega)))
          try simp only [Act.put, List.getElem_toArray, List.getElem_cons_succ, List.getElem_cons_zero, List.setIfInBounds_toArray, List.set_cons_zero, List.set_cons_succ]
          refine wpAnyH_take (i := 14) (v := ?v14_11) rfl (by kernel_rfl) (by kernel_rfl) (by kernel_rfl) (fun _ _ _ h => h) (Or.inl ⟨by rfl, ?hy14_11⟩) (by assumption) ?rest14_11
          case hy14_11 => intro w hSw; (try dsimp only at hSw); go_simp; (try with_reducible rfl)
          try simp only [Act.put, List.getElem_toArray, List.getElem_cons_succ, List.getElem_cons_zero, List.setIfInBounds_toArray, List.set_cons_zero, List.set_cons_succ]
          refine wpAnyH_done (by kernel_rfl) ?_ _
          refine NoPanic.normal ?_
          go_wp2_with fail
          go_ret
          refine ⟨?_, hbB⟩
          rw [hRR]
          rfl

set_option maxRecDepth 100000 in
set_option maxHeartbeats 2000000 in
theorem fmtIn_spec (cs : List Value) (x : DIn) (w : World) (h : rIn.rep w cs x) :
    Calls Tryd.prog 36 #[.agg cs.toArray] w fun e w' => e = .returned (.string (bs (fmtIn x))) ∧ Below w.heap.size w w' := by
  obtain ⟨rfl, hs0, hi1, hs2, hi3⟩ := rIn_open h
  obtain ⟨m1, c1, m2, c2⟩ := x
  simp only at hs0 hi1 hs2 hi3
  have HF : Hid (fmtIn (m1, c1, m2, c2) = if (nameB m1 && (nameB m2 && (betw c1 0 2 && betw c2 0 2))) then m1.data.toList ++ [chD c1] ++ [60] ++ m2.data.toList ++ [chD c2] else []) := rfl
  have H1 := Lib.hid (fun W => l4Name_any m1 W hs0)
  have H2 := Lib.hid (fun W => l4Name_any m2 W hs2)
  have H3 := Lib.hid (fun W => l1In_any c1 0 2 W)
  have H4 := Lib.hid (fun W => l1In_any c2 0 2 W)
  obtain ⟨b1, hb1⟩ : ∃ b, nameB m1 = b := ⟨_, rfl⟩
  obtain ⟨b2, hb2⟩ : ∃ b, nameB m2 = b := ⟨_, rfl⟩
  obtain ⟨b3, hb3⟩ : ∃ b, betw c1 0 2 = b := ⟨_, rfl⟩
  obtain ⟨b4, hb4⟩ : ∃ b, betw c2 0 2 = b := ⟨_, rfl⟩
  rw [hb1, hb2, hb3, hb4] at HF
  simp only [hb1] at H1
  simp only [hb2] at H2
  simp only [hb3] at H3
  simp only [hb4] at H4
  obtain ⟨R, hR⟩ : ∃ R, fmtIn (m1, c1, m2, c2) = R := ⟨_, rfl⟩
  rw [hR] at HF ⊢
  have HB1 := Lib.hid hb1
  have HB2 := Lib.hid hb2
  have HB3 := Lib.hid hb3
  have HB4 := Lib.hid hb4
  clear h hR hb1 hb2 hb3 hb4
  have hb0 : Below w.heap.size w w := Below.refl _ _
  go_enter Tryd.func36, Tryd.ntmps36
  obtain ⟨w1, hw1⟩ : ∃ W, W = w.alloc (.cells #[.string m1, .int .i64 c1, .string m2, .int .i64 c2] 51) := ⟨_, rfl⟩
  have z1 : Below w.heap.size w w1 := by rw [hw1]; exact (Below.refl _ _).alloc (Nat.le_refl _) _
  have s1 : w1.heap.size = w.heap.size + 1 := by rw [hw1]; simp
  have hb1 := on hb0 z1
  have x_0 : w1.cell? ⟨w.heap.size, 0, none⟩ = some (.string m1) := by rw [hw1]; exact box_cell (Below.refl _ _) rfl
  have x_1 : w1.cell? ⟨w.heap.size, 1, none⟩ = some (.int .i64 c1) := by rw [hw1]; exact box_cell (Below.refl _ _) rfl
  have x_2 : w1.cell? ⟨w.heap.size, 2, none⟩ = some (.string m2) := by rw [hw1]; exact box_cell (Below.refl _ _) rfl
  have x_3 : w1.cell? ⟨w.heap.size, 3, none⟩ = some (.int .i64 c2) := by rw [hw1]; exact box_cell (Below.refl _ _) rfl
  have raw1_x_0 := x_0
  have raw1_x_1 := x_1
  have raw1_x_2 := x_2
  have raw1_x_3 := x_3
  rw [hw1] at raw1_x_0 raw1_x_1 raw1_x_2 raw1_x_3
  go_wp2_with fail
  rw [← hw1]
  clear hw1
  clear raw1_x_0 raw1_x_1 raw1_x_2 raw1_x_3
  refine (H1.out _).mono ?_
  rintro e w' ⟨rfl, rfl⟩
  cases b1 with
  | false =>
    have HE : Hid (R = []) := Lib.hid (by rw [HF.out]; simp)
    go_wp2_with fail
    go_ret
    exact ⟨by rw [HE.out]; rfl, hb1⟩
  | true =>
    go_wp2_with fail
    refine (H2.out _).mono ?_
    rintro e w' ⟨rfl, rfl⟩
    cases b2 with
    | false =>
      have HE : Hid (R = []) := Lib.hid (by rw [HF.out]; simp)
      go_wp2_with fail
      go_ret
      exact ⟨by rw [HE.out]; rfl, hb1⟩
    | true =>
      go_wp2_with fail
      refine (H3.out _).mono ?_
      rintro e w' ⟨rfl, rfl⟩
      cases b3 with
      | false =>
        have HE : Hid (R = []) := Lib.hid (by rw [HF.out]; simp)
        go_wp2_with fail
        go_ret
        exact ⟨by rw [HE.out]; rfl, hb1⟩
      | true =>
        go_wp2_with fail
        refine (H4.out _).mono ?_
        rintro e w' ⟨rfl, rfl⟩
        cases b4 with
        | false =>
          have HE : Hid (R = []) := Lib.hid (by rw [HF.out]; simp)
          go_wp2_with fail
          go_ret
          exact ⟨by rw [HE.out]; rfl, hb1⟩
        | true =>
          have HE : Hid (R = m1.data.toList ++ [chD c1] ++ [60] ++ m2.data.toList ++ [chD c2]) := Lib.hid (by rw [HF.out]; rfl)
          obtain ⟨ml, rfl⟩ : ∃ ml, m1 = bs ml := ⟨_, (bs_of' m1).symm⟩
          obtain ⟨nl, rfl⟩ : ∃ nl, m2 = bs nl := ⟨_, (bs_of' m2).symm⟩
          have hl1 := name_len' HB1.out
          have hl2 := name_len' HB2.out
          have h3 := HB3.out
          have h4 := HB4.out
          simp only [betw, Bool.and_eq_true, decide_eq_true_eq] at h3 h4
          obtain ⟨d1, rfl⟩ := Int.eq_ofNat_of_zero_le h3.1
          obtain ⟨d2, rfl⟩ := Int.eq_ofNat_of_zero_le h4.1
          have HI1 := Lib.hid (fun W => fmtInt_dig d1 (by omega) W)
          have HI2 := Lib.hid (fun W => fmtInt_dig d2 (by omega) W)
          obtain ⟨q1, hq1⟩ : ∃ q, chD (d1 : Int) = q := ⟨_, rfl⟩
          obtain ⟨q2, hq2⟩ : ∃ q, chD (d2 : Int) = q := ⟨_, rfl⟩
          rw [hq1] at HI1 HE
          rw [hq2] at HI2 HE
          have hRR : bs R = ((((bs ml ++ bs [q1]) ++ ByteArray.mk #[60]) ++ bs nl) ++ bs [q2]) := by rw [HE.out, ← bs_app, ← bs_app, ← bs_app, ← bs_app]
          clear h3 h4 hq1 hq2 HF H1 H2 H3 H4 HB1 HB2 HB3 HB4
          go_wp2_with fail
          refine wp_region_noPanic ?_
          refine wp_region_held_drew (S := (fun W => W.cell? ⟨w.heap.size, 0, none⟩ = some (.string (bs ml)) ∧ W.cell? ⟨w.heap.size, 1, none⟩ = some (.int .i64 (d1 : Int)) ∧ W.cell? ⟨w.heap.size, 2, none⟩ = some (.string (bs nl)) ∧ W.cell? ⟨w.heap.size, 3, none⟩ = some (.int .i64 (d2 : Int)))) (by kernel_rfl) ?hS2 (fun hHeld => ?_)
          case hS2 => exact ⟨x_0, x_1, x_2, x_3⟩
          refine wpAnyH_take (i := 0) (v := ?v0_3) rfl (by kernel_rfl) (by kernel_rfl) (by kernel_rfl) (fun _ _ _ h => h) (Or.inl ⟨by rfl, ?hy0_3⟩) (by assumption) ?rest0_3
          case hy0_3 => intro w hSw; (try dsimp only at hSw); go_simp; (try with_reducible rfl)
          try simp only [Act.put, List.getElem_toArray, List.getElem_cons_succ, List.getElem_cons_zero, List.setIfInBounds_toArray, List.set_cons_zero, List.set_cons_succ]
          refine wpAnyH_take (i := 1) (v := ?v1_4) rfl (by kernel_rfl) (by kernel_rfl) (by kernel_rfl) (fun _ _ _ h => h) (Or.inl ⟨by rfl, ?hy1_4⟩) (by assumption) ?rest1_4
          case hy1_4 => intro w hSw; (try dsimp only at hSw); go_simp; (try with_reducible rfl)
          try simp only [Act.put, List.getElem_toArray, List.getElem_cons_succ, List.getElem_cons_zero, List.setIfInBounds_toArray, List.set_cons_zero, List.set_cons_succ]
          refine wpAnyH_take (i := 2) (v := ?v2_5) rfl (by kernel_rfl) (by kernel_rfl) (by kernel_rfl) (fun _ _ _ h => h) (Or.inl ⟨by rfl, ?hy2_5⟩) (by assumption) ?rest2_5
          case hy2_5 => intro w hSw; (try dsimp only at hSw); go_simp; (try with_reducible rfl)
          try simp only [Act.put, List.getElem_toArray, List.getElem_cons_succ, List.getElem_cons_zero, List.setIfInBounds_toArray, List.set_cons_zero, List.set_cons_succ]
          refine wpAnyH_take (i := 3) (v := ?v3_6) rfl (by kernel_rfl) (by kernel_rfl) (by kernel_rfl) (fun _ _ _ h => h) (Or.inl ⟨by rfl, ?hy3_6⟩) (by assumption) ?rest3_6
          case hy3_6 => intro w hSw; (try dsimp only at hSw); go_simp; (try with_reducible rfl)
          try simp only [Act.put, List.getElem_toArray, List.getElem_cons_succ, List.getElem_cons_zero, List.setIfInBounds_toArray, List.set_cons_zero, List.set_cons_succ]
          refine wpAnyH_take (i := 7) (v := ?v7_7) rfl (by kernel_rfl) (by kernel_rfl) (by kernel_rfl) (fun _ _ _ h => h) (Or.inl ⟨by rfl, ?hy7_7⟩) (by assumption) ?rest7_7
          case hy7_7 => intro w hSw; (try dsimp only at hSw); go_simp; (try with_reducible rfl)
          try simp only [Act.put, List.getElem_toArray, List.getElem_cons_succ, List.getElem_cons_zero, List.setIfInBounds_toArray, List.set_cons_zero, List.set_cons_succ]
          refine wpAnyH_take (i := 8) (v := ?v8_8) rfl (by kernel_rfl) (by kernel_rfl) (by kernel_rfl) (fun _ _ _ h => h) (Or.inl ⟨by rfl, ?hy8_8⟩) (by assumption) ?rest8_8
          case hy8_8 => intro w hSw; (try dsimp only at hSw); go_simp; (try with_reducible rfl)
          try simp only [Act.put, List.getElem_toArray, List.getElem_cons_succ, List.getElem_cons_zero, List.setIfInBounds_toArray, List.set_cons_zero, List.set_cons_succ]
          refine wpAnyH_take (i := 10) (v := ?v10_9) rfl (by kernel_rfl) (by kernel_rfl) (by kernel_rfl) (fun _ _ _ h => h) (Or.inl ⟨by rfl, ?hy10_9⟩) (by assumption) ?rest10_9
          case hy10_9 => intro w hSw; (try dsimp only at hSw); go_simp; (try with_reducible rfl)
          try simp only [Act.put, List.getElem_toArray, List.getElem_cons_succ, List.getElem_cons_zero, List.setIfInBounds_toArray, List.set_cons_zero, List.set_cons_succ]
          refine wpAnyH_take (i := 11) (v := ?v11_10) rfl (by kernel_rfl) (by kernel_rfl) (by kernel_rfl) (fun _ _ _ h => h) (Or.inl ⟨by rfl, ?hy11_10⟩) (by assumption) ?rest11_10
          case hy11_10 => intro w hSw; (try dsimp only at hSw); go_simp; (try with_reducible rfl)
          try simp only [Act.put, List.getElem_toArray, List.getElem_cons_succ, List.getElem_cons_zero, List.setIfInBounds_toArray, List.set_cons_zero, List.set_cons_succ]
          refine wpAnyH_ready (rs := [4]) (by kernel_rfl) (by simp) ?_
          refine AllReadyH.cons rfl (fun K hK => ?_) AllReadyH.nil
          go_simp; (refine (HI1.out _).mono ?_); rintro e wA ⟨rfl, zA⟩; replace zA : Below w1.heap.size w1 wA := on (Below.refl _ _).drew zA; have sA := zA.size; have hbA := on hb1 zA; have hSA := (⟨(zA.cell (p := ⟨w.heap.size, 0, none⟩) (by simp only []; omega)).trans x_0, (zA.cell (p := ⟨w.heap.size, 1, none⟩) (by simp only []; omega)).trans x_1, (zA.cell (p := ⟨w.heap.size, 2, none⟩) (by simp only []; omega)).trans x_2, (zA.cell (p := ⟨w.heap.size, 3, none⟩) (by simp only []; omega)).trans x_3⟩ : (fun W => W.cell? ⟨w.heap.size, 0, none⟩ = some (.string (bs ml)) ∧ W.cell? ⟨w.heap.size, 1, none⟩ = some (.int .i64 (d1 : Int)) ∧ W.cell? ⟨w.heap.size, 2, none⟩ = some (.string (bs nl)) ∧ W.cell? ⟨w.heap.size, 3, none⟩ = some (.int .i64 (d2 : Int))) wA)
          refine hK.out _ _ ?_ (fun hHeld => ?_)
          · exact hSA
          clear hK K
          try simp only [Act.put, List.setIfInBounds_toArray, List.set_cons_zero, List.set_cons_succ]
          refine wpAnyH_take (i := 5) (v := ?v5xs) rfl (by kernel_rfl) (by kernel_rfl) (by kernel_rfl) (fun _ _ _ h => h) (Or.inl ⟨by rfl, ?hy5xs⟩) (by assumption) ?rest5xs
          case hy5xs => intro w hSw; (try dsimp only at hSw); go_simp; (first | (with_reducible rfl) | rfl | (split <;> first | rfl | (exfalso; omega)))
          try simp only [Act.put, List.getElem_toArray, List.getElem_cons_succ, List.getElem_cons_zero, List.setIfInBounds_toArray, List.set_cons_zero, List.set_cons_succ]
          refine wpAnyH_take (i := 6) (v := ?v6xs) rfl (by kernel_rfl) (by kernel_rfl) (by kernel_rfl) (fun _ _ _ h => h) (Or.inl ⟨by rfl, ?hy6xs⟩) (by assumption) ?rest6xs
          case hy6xs => intro w hSw; (try dsimp only at hSw); go_simp; (first | (with_reducible rfl) | rfl | (split <;> first | rfl | (exfalso; omega)))
          try simp only [Act.put, List.getElem_toArray, List.getElem_cons_succ, List.getElem_cons_zero, List.setIfInBounds_toArray, List.set_cons_zero, List.set_cons_succ]
          refine wpAnyH_take (i := 9) (v := ?v9xs) rfl (by kernel_rfl) (by kernel_rfl) (by kernel_rfl) (fun _ _ _ h => h) (Or.inl ⟨by rfl, ?hy9xs⟩) (by assumption) ?rest9xs
          case hy9xs => intro w hSw; (try dsimp only at hSw); go_simp; (first | (with_reducible rfl) | rfl | (split <;> first | rfl | (exfalso; omega)))
          try simp only [Act.put, List.getElem_toArray, List.getElem_cons_succ, List.getElem_cons_zero, List.setIfInBounds_toArray, List.set_cons_zero, List.set_cons_succ]
          refine wpAnyH_ready (rs := [12]) (by kernel_rfl) (by simp) ?_
          refine AllReadyH.cons rfl (fun K hK => ?_) AllReadyH.nil
          go_simp; (refine (HI2.out _).mono ?_); rintro e wB ⟨rfl, zB⟩; have sB := zB.size; have hbB := on hbA zB; have hSB := (⟨(zB.cell (p := ⟨w.heap.size, 0, none⟩) (by simp only []; omega)).trans hSA.1, (zB.cell (p := ⟨w.heap.size, 1, none⟩) (by simp only []; omega)).trans hSA.2.1, (zB.cell (p := ⟨w.heap.size, 2, none⟩) (by simp only []; omega)).trans hSA.2.2.1, (zB.cell (p := ⟨w.heap.size, 3, none⟩) (by simp only []; omega)).trans hSA.2.2.2⟩ : (fun W => W.cell? ⟨w.heap.size, 0, none⟩ = some (.string (bs ml)) ∧ W.cell? ⟨w.heap.size, 1, none⟩ = some (.int .i64 (d1 : Int)) ∧ W.cell? ⟨w.heap.size, 2, none⟩ = some (.string (bs nl)) ∧ W.cell? ⟨w.heap.size, 3, none⟩ = some (.int .i64 (d2 : Int))) wB)
          refine hK.out _ _ ?_ (fun hHeld => ?_)
          · exact hSB
          clear hK K
          try simp only [Act.put, List.setIfInBounds_toArray, List.set_cons_zero, List.set_cons_succ]
          refine wpAnyH_take (i := 13) (v := ?v13xs) rfl (by kernel_rfl) (by kernel_rfl) (by kernel_rfl) (fun _ _ _ h => h) (Or.inl ⟨by rfl, ?hy13xs⟩) (by assumption) ?rest13xs
          case hy13xs => intro w hSw; (try dsimp only at hSw); go_simp; (first | (with_reducible rfl) | rfl | (split <;> first | rfl | (exfalso; omega)))
          try simp only [Act.put, List.getElem_toArray, List.getElem_cons_succ, List.getElem_cons_zero, List.setIfInBounds_toArray, List.set_cons_zero, List.set_cons_succ]
          refine wpAnyH_take (i := 14) (v := ?v14_11) rfl (by kernel_rfl) (by kernel_rfl) (by kernel_rfl) (fun _ _ _ h => h) (Or.inl ⟨by rfl, ?hy14_11⟩) (by assumption) ?rest14_11
          case hy14_11 => intro w hSw; (try dsimp only at hSw); go_simp; (try with_reducible rfl)
          try simp only [Act.put, List.getElem_toArray, List.getElem_cons_succ, List.getElem_cons_zero, List.setIfInBounds_toArray, List.set_cons_zero, List.set_cons_succ]
          refine wpAnyH_done (by kernel_rfl) ?_ _
          refine NoPanic.normal ?_
          go_wp2_with fail
          go_ret
          refine ⟨?_, hbB⟩
          rw [hRR]
          rfl

end Go.Proofs.YtehcjdbljdpmbaaDoor

/- Contracts: inclusions out of texts, both ways. Written by a program. -/
namespace Go.Proofs.YtehcjdbljdpmbaaDoor
open Go.RowKit
set_option linter.unusedVariables false
set_option linter.unusedSimpArgs false
set_option synthInstance.maxSize 2000
set_option synthInstance.maxHeartbeats 400000

/-- The inclusion that a text of five bytes would say. -/
def rawIn (b0 b1 b3 b4 : UInt8) : DIn := (bs [b0], (b1.toNat : Int) - 48, bs [b3], (b4.toNat : Int) - 48)
def parInL (l : List UInt8) : Option DIn :=
  match l with
  | [b0, b1, _, b3, b4] => if fmtIn (rawIn b0 b1 b3 b4) = l then some (rawIn b0 b1 b3 b4) else none
  | _ => none
def parIn (s : ByteArray) : Option DIn := parInL s.data.toList
def zeroIn : DIn := (ByteArray.mk #[], 0, ByteArray.mk #[], 0)
theorem list5 {l : List UInt8} (h : l.length = 5) : ∃ a b c d e, l = [a, b, c, d, e] := by
  match l, h with
  | [a, b, c, d, e], _ => exact ⟨a, b, c, d, e, rfl⟩
theorem parIn_short {s : ByteArray} (h : ¬ s.size = 5) : parIn s = none := by
  unfold parIn parInL
  split
  · rename_i e
    exfalso; apply h
    have : s.data.toList.length = 5 := by rw [e]; rfl
    simpa using this
  · rfl
def cellsIn (x : DIn) : Array Value := #[.string x.1, .int .i64 x.2.1, .string x.2.2.1, .int .i64 x.2.2.2]
theorem byte_wrap (b : UInt8) : wrap64 (wrap64 (b.toNat : Int) - 48) = (b.toNat : Int) - 48 := by
  have h := b.toNat_lt
  unfold wrap64
  omega
theorem rawIn_rep (w : World) (b0 b1 b3 b4 : UInt8) : rIn.rep w (cellsIn (rawIn b0 b1 b3 b4)).toList (rawIn b0 b1 b3 b4) := by
  have h1 := b1.toNat_lt
  have h4 := b4.toNat_lt
  exact rIn_mk (x := rawIn b0 b1 b3 b4) (by simp [rawIn, bs_size]) (show I64 ((b1.toNat : Int) - 48) by unfold I64; omega) (by simp [rawIn, bs_size]) (show I64 ((b4.toNat : Int) - 48) by unfold I64; omega)

set_option maxRecDepth 100000 in
set_option maxHeartbeats 2000000 in
theorem parIn_impl (s : ByteArray) (w : World) (hs : s.size ≤ 1048576) :
    Calls Tryd.prog 35 #[.string s] w fun e w' => e = .returned (.tuple #[.agg (cellsIn ((parIn s).getD zeroIn)), .bool (parIn s).isSome]) ∧ Below w.heap.size w w' := by
  by_cases h5 : s.size = 5
  · obtain ⟨b0, b1, b2, b3, b4, hl⟩ := list5 (l := s.data.toList) (by simpa using h5)
    have HP : Hid (parIn s = if fmtIn (rawIn b0 b1 b3 b4) = [b0, b1, b2, b3, b4] then some (rawIn b0 b1 b3 b4) else none) := Lib.hid (by unfold parIn; rw [hl]; rfl)
    obtain ⟨P, hP⟩ : ∃ P, parIn s = P := ⟨_, rfl⟩
    rw [hP] at HP ⊢
    obtain rfl : s = ByteArray.mk #[b0, b1, b2, b3, b4] := by rw [← bs_of' s, hl]
    clear h5 hl hP hs
    have HF : Hid (∀ W, Calls Tryd.prog 34 #[.agg #[.string (bs [b0]), .int .i64 ((b1.toNat : Int) - 48), .string (bs [b3]), .int .i64 ((b4.toNat : Int) - 48)]] W fun e w' => e = .returned (.string (bs (fmtIn (rawIn b0 b1 b3 b4)))) ∧ Below W.heap.size W w') := Lib.hid (fun W => fmtIn_impl _ _ W (rawIn_rep W b0 b1 b3 b4))
    go_enter Tryd.func35, Tryd.ntmps35
    go_wp2_with fail
    go_region
    have e1 : (ByteArray.mk #[b0, b1, b2, b3, b4]).extract 0 1 = bs [b0] := rfl
    have e3 : (ByteArray.mk #[b0, b1, b2, b3, b4]).extract 3 4 = bs [b3] := rfl
    have n1 : (ByteArray.mk #[b0, b1, b2, b3, b4])[1]'(show 1 < 5 by omega) = b1 := rfl
    have n4 : (ByteArray.mk #[b0, b1, b2, b3, b4])[4]'(show 4 < 5 by omega) = b4 := rfl
    simp only [e1, e3, n1, n4, byte_wrap]
    clear e1 e3 n1 n4
    obtain ⟨F, hF⟩ : ∃ F, fmtIn (rawIn b0 b1 b3 b4) = F := ⟨_, rfl⟩
    simp only [hF] at HF HP
    clear hF
    obtain ⟨wb, hwb⟩ : ∃ W, W = (w.alloc (.cells #[.string (ByteArray.mk #[]), .int .i64 0, .string (ByteArray.mk #[]), .int .i64 0] 51)) := ⟨_, rfl⟩
    have sb : wb.heap.size = w.heap.size + 1 := by rw [hwb]; simp
    have hbb : Below w.heap.size w wb := by rw [hwb]; exact (Below.refl _ _).alloc (Nat.le_refl _) _
    rw [← hwb]
    obtain ⟨w1, hw1⟩ : ∃ W, W = (wb.alloc (.cells #[.string (bs [b0]), .int .i64 ((b1.toNat : Int) - 48), .string (bs [b3]), .int .i64 ((b4.toNat : Int) - 48)] 51)).drew := ⟨_, rfl⟩
    rw [← hw1]
    have s1 : w1.heap.size = w.heap.size + 1 + 1 := by rw [hw1]; simp [sb]
    have hb1 : Below w.heap.size w w1 := by rw [hw1]; exact (hbb.alloc (by omega) _).drew
    have r_0 : w1.cell? ⟨w.heap.size, 0, none⟩ = some (.string (ByteArray.mk #[])) := by rw [hw1, hwb]; simp [go_sem]
    have r_1 : w1.cell? ⟨w.heap.size, 1, none⟩ = some (.int .i64 0) := by rw [hw1, hwb]; simp [go_sem]
    have r_2 : w1.cell? ⟨w.heap.size, 2, none⟩ = some (.string (ByteArray.mk #[])) := by rw [hw1, hwb]; simp [go_sem]
    have r_3 : w1.cell? ⟨w.heap.size, 3, none⟩ = some (.int .i64 0) := by rw [hw1, hwb]; simp [go_sem]
    have x_0 : w1.cell? ⟨w.heap.size + 1, 0, none⟩ = some (.string (bs [b0])) := by rw [hw1, ← sb]; simp [go_sem]
    have x_1 : w1.cell? ⟨w.heap.size + 1, 1, none⟩ = some (.int .i64 ((b1.toNat : Int) - 48)) := by rw [hw1, ← sb]; simp [go_sem]
    have x_2 : w1.cell? ⟨w.heap.size + 1, 2, none⟩ = some (.string (bs [b3])) := by rw [hw1, ← sb]; simp [go_sem]
    have x_3 : w1.cell? ⟨w.heap.size + 1, 3, none⟩ = some (.int .i64 ((b4.toNat : Int) - 48)) := by rw [hw1, ← sb]; simp [go_sem]
    have f_0 : w1.frozen? ⟨w.heap.size, 0, none⟩ = false := by rw [hw1, hwb]; simp [go_sem]
    have f_1 : w1.frozen? ⟨w.heap.size, 1, none⟩ = false := by rw [hw1, hwb]; simp [go_sem]
    have f_2 : w1.frozen? ⟨w.heap.size, 2, none⟩ = false := by rw [hw1, hwb]; simp [go_sem]
    have f_3 : w1.frozen? ⟨w.heap.size, 3, none⟩ = false := by rw [hw1, hwb]; simp [go_sem]
    clear hw1 hwb hbb sb
    go_wp2_with fail
    refine (HF.out _).mono ?_
    rintro e w2 ⟨rfl, z2⟩
    have s2 := z2.size
    have hb2 := on hb1 z2
    replace r_0 := (z2.cell (p := ⟨w.heap.size, 0, none⟩) (by simp only []; omega)).trans r_0
    replace r_1 := (z2.cell (p := ⟨w.heap.size, 1, none⟩) (by simp only []; omega)).trans r_1
    replace r_2 := (z2.cell (p := ⟨w.heap.size, 2, none⟩) (by simp only []; omega)).trans r_2
    replace r_3 := (z2.cell (p := ⟨w.heap.size, 3, none⟩) (by simp only []; omega)).trans r_3
    replace f_0 := (z2.frozen (p := ⟨w.heap.size, 0, none⟩) (by simp only []; omega)).trans f_0
    replace f_1 := (z2.frozen (p := ⟨w.heap.size, 1, none⟩) (by simp only []; omega)).trans f_1
    replace f_2 := (z2.frozen (p := ⟨w.heap.size, 2, none⟩) (by simp only []; omega)).trans f_2
    replace f_3 := (z2.frozen (p := ⟨w.heap.size, 3, none⟩) (by simp only []; omega)).trans f_3
    replace x_0 := (z2.cell (p := ⟨w.heap.size + 1, 0, none⟩) (by simp only []; omega)).trans x_0
    replace x_1 := (z2.cell (p := ⟨w.heap.size + 1, 1, none⟩) (by simp only []; omega)).trans x_1
    replace x_2 := (z2.cell (p := ⟨w.heap.size + 1, 2, none⟩) (by simp only []; omega)).trans x_2
    replace x_3 := (z2.cell (p := ⟨w.heap.size + 1, 3, none⟩) (by simp only []; omega)).trans x_3
    by_cases hq : F = [b0, b1, b2, b3, b4]
    · obtain rfl : P = some (rawIn b0 b1 b3 b4) := by rw [HP.out, if_pos hq]
      subst hq
      have hB : bs [b0, b1, b2, b3, b4] = ByteArray.mk #[b0, b1, b2, b3, b4] := rfl
      rw [hB]
      have hq0 : ((ByteArray.mk #[b0, b1, b2, b3, b4]).toList == (ByteArray.mk #[b0, b1, b2, b3, b4]).toList) = true := by simp
      clear HF HP hB
      go_wp2_with fail
      refine bodyPost_ret (v := .tuple #[.agg (cellsIn (rawIn b0 b1 b3 b4)), .bool true]) (by simp [results, Tryd.results35, go_sem, cellsIn, rawIn, r_0, r_1, r_2, r_3, f_0, f_1, f_2, f_3]) rfl ⟨rfl, ?_⟩
      repeat (refine Below.setCell ?_ (by simp only []; omega) _)
      exact hb2
    · obtain rfl : P = none := by rw [HP.out, if_neg hq]
      have hne : (F == [b0, b1, b2, b3, b4]) = false := by rw [beq_eq_false_iff_ne]; exact hq
      clear HF HP hq
      go_wp2_with fail
      refine bodyPost_ret (v := .tuple #[.agg (cellsIn zeroIn), .bool false]) (by simp [results, Tryd.results35, go_sem, cellsIn, zeroIn, r_0, r_1, r_2, r_3, f_0, f_1, f_2, f_3]) rfl ⟨rfl, ?_⟩
      repeat (refine Below.setCell ?_ (by simp only []; omega) _)
      exact hb2
  · rw [parIn_short h5]
    go_enter Tryd.func35, Tryd.ntmps35
    go_wp2_with fail

    refine bodyPost_ret (v := .tuple #[.agg (cellsIn zeroIn), .bool false]) (by simp [results, Tryd.results35, go_sem, cellsIn, zeroIn]) rfl ⟨rfl, ?_⟩
    repeat (refine Below.setCell ?_ (by simp only []; omega) _)
    exact (Below.refl _ _).alloc (Nat.le_refl _) _

theorem parI_impl (s : ByteArray) (w : World) (hs : s.size ≤ 1048576) :
    Calls Tryd.prog 35 #[.string s] w fun e w' => e = .returned (.tuple #[.agg #[.string ((parIn s).getD zeroIn).1, .int .i64 ((parIn s).getD zeroIn).2.1, .string ((parIn s).getD zeroIn).2.2.1, .int .i64 ((parIn s).getD zeroIn).2.2.2], .bool (parIn s).isSome]) ∧ Below w.heap.size w w' := parIn_impl s w hs

end Go.Proofs.YtehcjdbljdpmbaaDoor
