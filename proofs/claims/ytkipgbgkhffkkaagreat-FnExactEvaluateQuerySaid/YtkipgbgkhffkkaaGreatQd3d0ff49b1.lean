/- Texts joined for one claim: LEvaluateQuery. -/
import Derived.Test.YtkipgbgkhffkkaaGreatQc7dfe7d8e4
import Derived.Deep.RegionHeld3

/- The walk of the law EvaluateQuery. Written by a program. -/
namespace Go.Proofs.YtkipgbgkhffkkaaGreat
open Go.RowKit
set_option linter.unusedVariables false
set_option linter.unusedSimpArgs false
set_option synthInstance.maxSize 2000
set_option synthInstance.maxHeartbeats 400000

set_option maxHeartbeats 4000000 in
set_option maxRecDepth 100000 in
theorem walk_FnExactEvaluateQuery (v0 : Value) (v1 : Value) (w : World) (h0 : kDb_in w v0) (h1 : kQ_in w v1) :
    Calls Tryz.prog 5 #[v0, v1] w fun e w' => e = .returned (.bool true) ∧ Below w.heap.size w w' := by
  obtain ⟨c0, x0, rfl, h0⟩ := h0
  obtain ⟨bu0, nu0, cu0, rfl⟩ := rDb_form h0
  obtain ⟨c1, x1, rfl, h1⟩ := h1
  obtain ⟨bu1, nu1, cu1, rfl⟩ := rQ_form h1
  have hb0 : Below w.heap.size w w := Below.refl _ _
  go_enter Tryz.func5, Tryz.ntmps5
  obtain ⟨w1, hw1⟩ : ∃ W, W = w.alloc (.cells #[.slice bu0 nu0 cu0] 24) := ⟨_, rfl⟩
  have z1 : Below w.heap.size w w1 := by rw [hw1]; exact (Below.refl _ _).alloc (Nat.le_refl _) _
  have s1 : w1.heap.size = w.heap.size + 1 := by rw [hw1]; simp
  have hb1 := on hb0 z1
  have bp0_0 : w1.cell? ⟨w.heap.size, 0, none⟩ = some (.slice bu0 nu0 cu0) := by rw [hw1]; exact box_cell (Below.refl _ _) rfl
  obtain ⟨w2, hw2⟩ : ∃ W, W = w1.alloc (.cells #[.int .i64 x1.1, .slice bu1 nu1 cu1] 27) := ⟨_, rfl⟩
  have z2 : Below w1.heap.size w1 w2 := by rw [hw2]; exact (Below.refl _ _).alloc (Nat.le_refl _) _
  have s2 : w2.heap.size = w1.heap.size + 1 := by rw [hw2]; simp
  have hb2 := on hb1 z2
  replace bp0_0 := (z2.cell (p := ⟨w.heap.size, 0, none⟩) (by simp only []; omega)).trans bp0_0
  have bp1_0 : w2.cell? ⟨w1.heap.size, 0, none⟩ = some (.int .i64 x1.1) := by rw [hw2]; exact box_cell (Below.refl _ _) rfl
  have bp1_1 : w2.cell? ⟨w1.heap.size, 1, none⟩ = some (.slice bu1 nu1 cu1) := by rw [hw2]; exact box_cell (Below.refl _ _) rfl
  have e2 : w1.heap.size = w.heap.size + 1 := by omega
  rw [e2] at bp1_0 bp1_1
  go_wp2_with fail
  rw [← hw1]
  clear hw1
  rw [← hw2]
  clear hw2
  refine (sz_Db _ x0 (1048576) _ (rDb.mono h0 hb2) (by omega) (by omega)).mono ?_
  rintro e w3 ⟨rfl, z3⟩
  have s3 := z3.size
  have hb3 := on hb2 z3
  replace bp0_0 := (z3.cell (p := ⟨w.heap.size, 0, none⟩) (by simp only []; omega)).trans bp0_0
  replace bp1_0 := (z3.cell (p := ⟨w.heap.size + 1, 0, none⟩) (by simp only []; omega)).trans bp1_0
  replace bp1_1 := (z3.cell (p := ⟨w.heap.size + 1, 1, none⟩) (by simp only []; omega)).trans bp1_1
  obtain ⟨q0, hq0⟩ : ∃ q, q = szR (1048576) (bulk_Db x0) := ⟨_, rfl⟩
  rw [← hq0]
  have hc0 := szR_cases (1048576) (bulk_Db x0)
  rw [← hq0] at hc0
  clear hq0
  rcases hc0 with ⟨rfl, _⟩ | ⟨hq0, hbk0⟩
  · go_wp2_with fail
    go_ret
    exact ⟨rfl, hb3⟩
  have hlo0 : 0 ≤ q0 ∧ q0 ≤ 1048576 := by omega
  have hbl0 : bulk_Db x0 ≤ 1048576 := by omega
  obtain ⟨hlo0, hlp0⟩ := hlo0
  have HQ0 := Lib.hid hq0
  clear hq0 hbk0
  go_wp2_with fail
  refine (sz_Q _ x1 (q0) _ (rQ.mono h1 hb3) (by omega) (by omega)).mono ?_
  rintro e w4 ⟨rfl, z4⟩
  have s4 := z4.size
  have hb4 := on hb3 z4
  replace bp0_0 := (z4.cell (p := ⟨w.heap.size, 0, none⟩) (by simp only []; omega)).trans bp0_0
  replace bp1_0 := (z4.cell (p := ⟨w.heap.size + 1, 0, none⟩) (by simp only []; omega)).trans bp1_0
  replace bp1_1 := (z4.cell (p := ⟨w.heap.size + 1, 1, none⟩) (by simp only []; omega)).trans bp1_1
  obtain ⟨q1, hq1⟩ : ∃ q, q = szR (q0) (bulk_Q x1) := ⟨_, rfl⟩
  rw [← hq1]
  have hc1 := szR_cases (q0) (bulk_Q x1)
  rw [← hq1] at hc1
  clear hq1
  rcases hc1 with ⟨rfl, _⟩ | ⟨hq1, hbk1⟩
  · go_wp2_with fail
    go_ret
    exact ⟨rfl, hb4⟩
  have hlo1 : 0 ≤ q1 ∧ q1 ≤ 1048576 := by omega
  have hbl1 : bulk_Q x1 ≤ 1048576 := by omega
  obtain ⟨hlo1, hlp1⟩ := hlo1
  have HQ1 := Lib.hid hq1
  clear hq1 hbk1
  go_wp2_with fail
  apply share4 (fun (BW0 : Nat) (w5 : World) (but0 : Option Addr) (nut0 : Nat) (cut0 : Nat) (but1 : Option Addr) (nut1 : Nat) (cut1 : Nat) (buW0 : Option Addr) (nuW0 : Nat) (cuW0 : Nat) (buW0b : Option Addr) (nuW0b : Nat) (cuW0b : Nat) => Below w4.heap.size w4 w5 ∧ w4.heap.size ≤ BW0 ∧ BW0 < w5.heap.size ∧ (w5.cell? ⟨BW0, 0, none⟩ = some (.slice buW0 nuW0 cuW0) ∧ w5.cell? ⟨BW0, 1, none⟩ = some (.slice buW0b nuW0b cuW0b)) ∧ ∃ lo hi, w4.heap.size ≤ lo ∧ lo ≤ hi ∧ hi ≤ w5.heap.size ∧ (BW0 < lo ∨ hi ≤ BW0) ∧ Own oAn lo hi w5 [.slice buW0 nuW0 cuW0, .slice buW0b nuW0b cuW0b] (evalM x0 x1 (fullMask x1)))
  case br =>
    intro key
    refine wp_region_noPanic ?_
    refine wp_region_held_drew (S := (fun W => W.cell? ⟨w.heap.size, 0, none⟩ = some (.slice bu0 nu0 cu0) ∧ W.cell? ⟨w.heap.size + 1, 0, none⟩ = some (.int .i64 x1.1) ∧ W.cell? ⟨w.heap.size + 1, 1, none⟩ = some (.slice bu1 nu1 cu1))) (by kernel_rfl) ?hS (fun hHeld => ?_)
    case hS => exact ⟨bp0_0, bp1_0, bp1_1⟩
    refine wpAnyH_take (i := 0) (v := ?v0_t1) rfl (by kernel_rfl) (by kernel_rfl) (by kernel_rfl) (fun _ _ _ h => h) (Or.inl ⟨by rfl, ?hy0_t1⟩) (by assumption) ?rest0_t1
    case hy0_t1 => intro w hSw; (try dsimp only at hSw); go_simp; (try with_reducible rfl)
    try simp only [Act.put, List.getElem_toArray, List.getElem_cons_succ, List.getElem_cons_zero, List.setIfInBounds_toArray, List.set_cons_zero, List.set_cons_succ]
    refine wpAnyH_take (i := 2) (v := ?v2_t2) rfl (by kernel_rfl) (by kernel_rfl) (by kernel_rfl) (fun _ _ _ h => h) (Or.inl ⟨by rfl, ?hy2_t2⟩) (by assumption) ?rest2_t2
    case hy2_t2 => intro w hSw; (try dsimp only at hSw); go_simp; (try with_reducible rfl)
    try simp only [Act.put, List.getElem_toArray, List.getElem_cons_succ, List.getElem_cons_zero, List.setIfInBounds_toArray, List.set_cons_zero, List.set_cons_succ]
    refine wpAnyH_ready (rs := [1, 8]) (by kernel_rfl) (by simp) ?_
    refine AllReadyH.cons rfl (fun K hK => ?_) (AllReadyH.cons rfl (fun K hK => ?_) AllReadyH.nil)
    · skip
      go_simp
      refine (to_Db _ x0 _ (rDb.mono h0 (hb4.drew)) (by omega)).mono ?_
      rintro e v3 ⟨ct0, rfl, t0, y3⟩
      obtain ⟨but0, nut0, cut0, rfl⟩ := oDb_form t0
      replace y3 : Below w4.heap.size w4 v3 := on (Below.refl _ _).drew y3
      have y3s := y3.size
      have gv3 := on hb4 y3
      have Sv3 := (⟨(y3.cell (p := ⟨w.heap.size, 0, none⟩) (by simp only []; omega)).trans bp0_0, (y3.cell (p := ⟨w.heap.size + 1, 0, none⟩) (by simp only []; omega)).trans bp1_0, (y3.cell (p := ⟨w.heap.size + 1, 1, none⟩) (by simp only []; omega)).trans bp1_1⟩ : (fun W => W.cell? ⟨w.heap.size, 0, none⟩ = some (.slice bu0 nu0 cu0) ∧ W.cell? ⟨w.heap.size + 1, 0, none⟩ = some (.int .i64 x1.1) ∧ W.cell? ⟨w.heap.size + 1, 1, none⟩ = some (.slice bu1 nu1 cu1)) v3)
      refine hK.out _ _ ?_ (fun hHeld => ?_)
      · exact Sv3
      clear hK K
      try simp only [Act.put, List.setIfInBounds_toArray, List.set_cons_zero, List.set_cons_succ]
      refine wpAnyH_ready (rs := [3, 8]) (by kernel_rfl) (by simp) ?_
      refine AllReadyH.cons rfl (fun K hK => ?_) (AllReadyH.cons rfl (fun K hK => ?_) AllReadyH.nil)
      · skip
        go_simp
        refine (to_Q _ x1 _ (rQ.mono h1 (gv3)) (by omega)).mono ?_
        rintro e v4 ⟨ct1, rfl, t1, y4⟩
        obtain ⟨but1, nut1, cut1, rfl⟩ := oQ_form t1
        have y4s := y4.size
        have gv4 := on gv3 y4
        have Sv4 := (⟨(y4.cell (p := ⟨w.heap.size, 0, none⟩) (by simp only []; omega)).trans Sv3.1, (y4.cell (p := ⟨w.heap.size + 1, 0, none⟩) (by simp only []; omega)).trans Sv3.2.1, (y4.cell (p := ⟨w.heap.size + 1, 1, none⟩) (by simp only []; omega)).trans Sv3.2.2⟩ : (fun W => W.cell? ⟨w.heap.size, 0, none⟩ = some (.slice bu0 nu0 cu0) ∧ W.cell? ⟨w.heap.size + 1, 0, none⟩ = some (.int .i64 x1.1) ∧ W.cell? ⟨w.heap.size + 1, 1, none⟩ = some (.slice bu1 nu1 cu1)) v4)
        have cv4 := on y3 y4
        replace t0 := t0.below y4 (by omega)
        refine hK.out _ _ ?_ (fun hHeld => ?_)
        · exact Sv4
        clear hK K
        try simp only [Act.put, List.setIfInBounds_toArray, List.set_cons_zero, List.set_cons_succ]
        refine wpAnyH_ready (rs := [4, 8]) (by kernel_rfl) (by simp) ?_
        refine AllReadyH.cons rfl (fun K hK => ?_) (AllReadyH.cons rfl (fun K hK => ?_) AllReadyH.nil)
        · skip
          go_simp
          refine (evalQ_spec _ _ x0 x1 _ (t0.rd reads_Db) (t1.rd reads_Q)).mono ?_
          rintro e v5 ⟨cW0, rfl, W0, y5⟩
          obtain ⟨buW0, nuW0, cuW0, buW0b, nuW0b, cuW0b, rfl⟩ := oAn_form W0
          have y5s := y5.size
          have gv5 := on gv4 y5
          have Sv5 := (⟨(y5.cell (p := ⟨w.heap.size, 0, none⟩) (by simp only []; omega)).trans Sv4.1, (y5.cell (p := ⟨w.heap.size + 1, 0, none⟩) (by simp only []; omega)).trans Sv4.2.1, (y5.cell (p := ⟨w.heap.size + 1, 1, none⟩) (by simp only []; omega)).trans Sv4.2.2⟩ : (fun W => W.cell? ⟨w.heap.size, 0, none⟩ = some (.slice bu0 nu0 cu0) ∧ W.cell? ⟨w.heap.size + 1, 0, none⟩ = some (.int .i64 x1.1) ∧ W.cell? ⟨w.heap.size + 1, 1, none⟩ = some (.slice bu1 nu1 cu1)) v5)
          have cv5 := on cv4 y5
          refine hK.out _ _ ?_ (fun hHeld => ?_)
          · exact Sv5
          clear hK K
          try simp only [Act.put, List.setIfInBounds_toArray, List.set_cons_zero, List.set_cons_succ]
          refine wpAnyH_take (i := 5) (v := ?v5_t6) rfl (by kernel_rfl) (by kernel_rfl) (by kernel_rfl) (fun _ _ _ h => h) (Or.inl ⟨by rfl, ?hy5_t6⟩) (by assumption) ?rest5_t6
          case hy5_t6 => intro w hSw; (try dsimp only at hSw); go_simp; (try with_reducible rfl)
          try simp only [Act.put, List.getElem_toArray, List.getElem_cons_succ, List.getElem_cons_zero, List.setIfInBounds_toArray, List.set_cons_zero, List.set_cons_succ]
          refine wpAnyH_take (i := 6) (v := ?v6_t7) rfl (by kernel_rfl) (by kernel_rfl) (by kernel_rfl) (fun _ _ _ h => h) (Or.inl ⟨by rfl, ?hy6_t7⟩) (by assumption) ?rest6_t7
          case hy6_t7 => intro w hSw; (try dsimp only at hSw); go_simp; (try with_reducible rfl)
          try simp only [Act.put, List.getElem_toArray, List.getElem_cons_succ, List.getElem_cons_zero, List.setIfInBounds_toArray, List.set_cons_zero, List.set_cons_succ]
          refine wpAnyH_take (i := 7) (v := ?v7_t8) rfl (by kernel_rfl) (by kernel_rfl) (by kernel_rfl) (fun _ _ _ h => h) (Or.inl ⟨by rfl, ?hy7_t8⟩) (by assumption) ?rest7_t8
          case hy7_t8 => intro w hSw; (try dsimp only at hSw); go_simp; (try with_reducible rfl)
          try simp only [Act.put, List.getElem_toArray, List.getElem_cons_succ, List.getElem_cons_zero, List.setIfInBounds_toArray, List.set_cons_zero, List.set_cons_succ]
          refine wpAnyH_ready (rs := [8]) (by kernel_rfl) (by simp) ?_
          refine AllReadyH.cons rfl (fun K hK => ?_) AllReadyH.nil
          go_simp
          obtain ⟨v9, hwv9⟩ : ∃ W, W = v5.alloc (.cells #[.slice none 0 0, .slice none 0 0] 49) := ⟨_, rfl⟩
          have n_0 : v9.cell? ⟨v5.heap.size, 0, none⟩ = some (.slice none 0 0) := by rw [hwv9]; exact box_cell (Below.refl _ _) rfl
          have n_1 : v9.cell? ⟨v5.heap.size, 1, none⟩ = some (.slice none 0 0) := by rw [hwv9]; exact box_cell (Below.refl _ _) rfl
          have n_f0 : v9.frozen? ⟨v5.heap.size, 0, none⟩ = false := by rw [hwv9]; exact box_frozen (Below.refl _ _)
          have n_f1 : v9.frozen? ⟨v5.heap.size, 1, none⟩ = false := by rw [hwv9]; exact box_frozen (Below.refl _ _)
          have y9 : Below v5.heap.size v5 v9 := by rw [hwv9]; exact ((Below.refl _ _).alloc (Nat.le_refl _) _)
          have y9s : v5.heap.size < v9.heap.size := by rw [hwv9]; show _ < (v5.alloc _).heap.size; simp
          have gv9 := on gv5 y9
          have Sv9 := (⟨(y9.cell (p := ⟨w.heap.size, 0, none⟩) (by simp only []; omega)).trans Sv5.1, (y9.cell (p := ⟨w.heap.size + 1, 0, none⟩) (by simp only []; omega)).trans Sv5.2.1, (y9.cell (p := ⟨w.heap.size + 1, 1, none⟩) (by simp only []; omega)).trans Sv5.2.2⟩ : (fun W => W.cell? ⟨w.heap.size, 0, none⟩ = some (.slice bu0 nu0 cu0) ∧ W.cell? ⟨w.heap.size + 1, 0, none⟩ = some (.int .i64 x1.1) ∧ W.cell? ⟨w.heap.size + 1, 1, none⟩ = some (.slice bu1 nu1 cu1)) v9)
          have cv9 := on cv5 y9
          replace W0 := W0.below y9 (by omega)
          rw [← hwv9]
          clear hwv9
          refine hK.out _ _ ?_ (fun hHeld => ?_)
          · exact Sv9
          clear hK K
          try simp only [Act.put, List.setIfInBounds_toArray, List.set_cons_zero, List.set_cons_succ]
          refine wpAnyH_ready (rs := [9]) (by kernel_rfl) (by simp) ?_
          refine AllReadyH.cons rfl (fun K hK => ?_) AllReadyH.nil
          go_simp
          refine hK.out _ _ ?_ (fun hHeld => ?_)
          · exact ⟨cell_set (cell_set Sv9.1 (by simp only []; omega)) (by simp only []; omega), cell_set (cell_set Sv9.2.1 (by simp only []; omega)) (by simp only []; omega), cell_set (cell_set Sv9.2.2 (by simp only []; omega)) (by simp only []; omega)⟩
          clear hK K
          try simp only [Act.put, List.setIfInBounds_toArray, List.set_cons_zero, List.set_cons_succ]
          refine wpAnyH_take (i := 10) (v := ?v10_t10) rfl (by kernel_rfl) (by kernel_rfl) (by kernel_rfl) (fun _ _ _ h => h) (Or.inl ⟨by rfl, ?hy10_t10⟩) (by assumption) ?rest10_t10
          case hy10_t10 => intro w hSw; (try dsimp only at hSw); go_simp; (try with_reducible rfl)
          try simp only [Act.put, List.getElem_toArray, List.getElem_cons_succ, List.getElem_cons_zero, List.setIfInBounds_toArray, List.set_cons_zero, List.set_cons_succ]
          refine wpAnyH_done (by kernel_rfl) ?_ _
          refine NoPanic.normal ?_
          obtain ⟨Wf, hWf⟩ : ∃ W, W = (v9.setCell ⟨v5.heap.size, 0, none⟩ (.slice buW0 nuW0 cuW0)).setCell ⟨v5.heap.size, 1, none⟩ (.slice buW0b nuW0b cuW0b) := ⟨_, rfl⟩
          rw [← hWf]
          have f0 : Below w4.heap.size w4 Wf := by rw [hWf]; exact (cv9.setCell (by simp only []; omega) _).setCell (by simp only []; omega) _
          have f1 : v9.heap.size = Wf.heap.size := by rw [hWf]; simp [World.setCell]
          have f2 : Wf.cell? ⟨v5.heap.size, 0, none⟩ = some (.slice buW0 nuW0 cuW0) := by rw [hWf]; simp [go_sem, n_0, n_1]
          have f3 : Wf.cell? ⟨v5.heap.size, 1, none⟩ = some (.slice buW0b nuW0b cuW0b) := by rw [hWf]; simp [go_sem, n_0, n_1]
          have f4 : Own oAn v4.heap.size v5.heap.size Wf [.slice buW0 nuW0 cuW0, .slice buW0b nuW0b cuW0b] (evalM x0 x1 (fullMask x1)) := by rw [hWf]; exact Own.setOff (Own.setOff W0 rfl (by simp only []; omega)) rfl (by simp only []; omega)
          obtain ⟨BB, hBB⟩ : ∃ B, B = v5.heap.size := ⟨_, rfl⟩
          rw [← hBB] at f2 f3 ⊢
          have f5 : w4.heap.size ≤ BB ∧ BB < Wf.heap.size := by omega
          have f6 : w4.heap.size ≤ v4.heap.size ∧ v4.heap.size ≤ v5.heap.size ∧ v5.heap.size ≤ Wf.heap.size ∧ (BB < v4.heap.size ∨ v5.heap.size ≤ BB) := by omega
          have fin : ∃ lo hi, w4.heap.size ≤ lo ∧ lo ≤ hi ∧ hi ≤ Wf.heap.size ∧ (BB < lo ∨ hi ≤ BB) ∧ Own oAn lo hi Wf [.slice buW0 nuW0 cuW0, .slice buW0b nuW0b cuW0b] (evalM x0 x1 (fullMask x1)) := ⟨_, _, f6.1, f6.2.1, f6.2.2.1, f6.2.2.2, f4⟩
          clear f4 f6 hWf f1 hBB
          exact key BB Wf but0 nut0 cut0 but1 nut1 cut1 buW0 nuW0 cuW0 buW0b nuW0b cuW0b ⟨f0, f5.1, f5.2, ⟨f2, f3⟩, fin⟩
        · skip
          go_simp
          obtain ⟨v11, hwv11⟩ : ∃ W, W = v4.alloc (.cells #[.slice none 0 0, .slice none 0 0] 49) := ⟨_, rfl⟩
          have n_0 : v11.cell? ⟨v4.heap.size, 0, none⟩ = some (.slice none 0 0) := by rw [hwv11]; exact box_cell (Below.refl _ _) rfl
          have n_1 : v11.cell? ⟨v4.heap.size, 1, none⟩ = some (.slice none 0 0) := by rw [hwv11]; exact box_cell (Below.refl _ _) rfl
          have n_f0 : v11.frozen? ⟨v4.heap.size, 0, none⟩ = false := by rw [hwv11]; exact box_frozen (Below.refl _ _)
          have n_f1 : v11.frozen? ⟨v4.heap.size, 1, none⟩ = false := by rw [hwv11]; exact box_frozen (Below.refl _ _)
          have y11 : Below v4.heap.size v4 v11 := by rw [hwv11]; exact ((Below.refl _ _).alloc (Nat.le_refl _) _)
          have y11s : v4.heap.size < v11.heap.size := by rw [hwv11]; show _ < (v4.alloc _).heap.size; simp
          have gv11 := on gv4 y11
          have Sv11 := (⟨(y11.cell (p := ⟨w.heap.size, 0, none⟩) (by simp only []; omega)).trans Sv4.1, (y11.cell (p := ⟨w.heap.size + 1, 0, none⟩) (by simp only []; omega)).trans Sv4.2.1, (y11.cell (p := ⟨w.heap.size + 1, 1, none⟩) (by simp only []; omega)).trans Sv4.2.2⟩ : (fun W => W.cell? ⟨w.heap.size, 0, none⟩ = some (.slice bu0 nu0 cu0) ∧ W.cell? ⟨w.heap.size + 1, 0, none⟩ = some (.int .i64 x1.1) ∧ W.cell? ⟨w.heap.size + 1, 1, none⟩ = some (.slice bu1 nu1 cu1)) v11)
          have cv11 := on cv4 y11
          replace t0 := t0.below y11 (by omega)
          replace t1 := t1.below y11 (by omega)
          rw [← hwv11]
          clear hwv11
          refine hK.out _ _ ?_ (fun hHeld => ?_)
          · exact Sv11
          clear hK K
          try simp only [Act.put, List.setIfInBounds_toArray, List.set_cons_zero, List.set_cons_succ]
          refine wpAnyH_ready (rs := [4]) (by kernel_rfl) (by simp) ?_
          refine AllReadyH.cons rfl (fun K hK => ?_) AllReadyH.nil
          go_simp
          refine (evalQ_spec _ _ x0 x1 _ (t0.rd reads_Db) (t1.rd reads_Q)).mono ?_
          rintro e v12 ⟨cW0, rfl, W0, y12⟩
          obtain ⟨buW0, nuW0, cuW0, buW0b, nuW0b, cuW0b, rfl⟩ := oAn_form W0
          have y12s := y12.size
          have gv12 := on gv11 y12
          have Sv12 := (⟨(y12.cell (p := ⟨w.heap.size, 0, none⟩) (by simp only []; omega)).trans Sv11.1, (y12.cell (p := ⟨w.heap.size + 1, 0, none⟩) (by simp only []; omega)).trans Sv11.2.1, (y12.cell (p := ⟨w.heap.size + 1, 1, none⟩) (by simp only []; omega)).trans Sv11.2.2⟩ : (fun W => W.cell? ⟨w.heap.size, 0, none⟩ = some (.slice bu0 nu0 cu0) ∧ W.cell? ⟨w.heap.size + 1, 0, none⟩ = some (.int .i64 x1.1) ∧ W.cell? ⟨w.heap.size + 1, 1, none⟩ = some (.slice bu1 nu1 cu1)) v12)
          have cv12 := on cv11 y12
          replace n_0 := (y12.cell (p := ⟨v4.heap.size, 0, none⟩) (by simp only []; omega)).trans n_0
          replace n_1 := (y12.cell (p := ⟨v4.heap.size, 1, none⟩) (by simp only []; omega)).trans n_1
          replace n_f0 := (y12.frozen (p := ⟨v4.heap.size, 0, none⟩) (by simp only []; omega)).trans n_f0
          replace n_f1 := (y12.frozen (p := ⟨v4.heap.size, 1, none⟩) (by simp only []; omega)).trans n_f1
          refine hK.out _ _ ?_ (fun hHeld => ?_)
          · exact Sv12
          clear hK K
          try simp only [Act.put, List.setIfInBounds_toArray, List.set_cons_zero, List.set_cons_succ]
          refine wpAnyH_take (i := 5) (v := ?v5_t13) rfl (by kernel_rfl) (by kernel_rfl) (by kernel_rfl) (fun _ _ _ h => h) (Or.inl ⟨by rfl, ?hy5_t13⟩) (by assumption) ?rest5_t13
          case hy5_t13 => intro w hSw; (try dsimp only at hSw); go_simp; (try with_reducible rfl)
          try simp only [Act.put, List.getElem_toArray, List.getElem_cons_succ, List.getElem_cons_zero, List.setIfInBounds_toArray, List.set_cons_zero, List.set_cons_succ]
          refine wpAnyH_take (i := 6) (v := ?v6_t14) rfl (by kernel_rfl) (by kernel_rfl) (by kernel_rfl) (fun _ _ _ h => h) (Or.inl ⟨by rfl, ?hy6_t14⟩) (by assumption) ?rest6_t14
          case hy6_t14 => intro w hSw; (try dsimp only at hSw); go_simp; (try with_reducible rfl)
          try simp only [Act.put, List.getElem_toArray, List.getElem_cons_succ, List.getElem_cons_zero, List.setIfInBounds_toArray, List.set_cons_zero, List.set_cons_succ]
          refine wpAnyH_take (i := 7) (v := ?v7_t15) rfl (by kernel_rfl) (by kernel_rfl) (by kernel_rfl) (fun _ _ _ h => h) (Or.inl ⟨by rfl, ?hy7_t15⟩) (by assumption) ?rest7_t15
          case hy7_t15 => intro w hSw; (try dsimp only at hSw); go_simp; (try with_reducible rfl)
          try simp only [Act.put, List.getElem_toArray, List.getElem_cons_succ, List.getElem_cons_zero, List.setIfInBounds_toArray, List.set_cons_zero, List.set_cons_succ]
          refine wpAnyH_ready (rs := [9]) (by kernel_rfl) (by simp) ?_
          refine AllReadyH.cons rfl (fun K hK => ?_) AllReadyH.nil
          go_simp
          refine hK.out _ _ ?_ (fun hHeld => ?_)
          · exact ⟨cell_set (cell_set Sv12.1 (by simp only []; omega)) (by simp only []; omega), cell_set (cell_set Sv12.2.1 (by simp only []; omega)) (by simp only []; omega), cell_set (cell_set Sv12.2.2 (by simp only []; omega)) (by simp only []; omega)⟩
          clear hK K
          try simp only [Act.put, List.setIfInBounds_toArray, List.set_cons_zero, List.set_cons_succ]
          refine wpAnyH_take (i := 10) (v := ?v10_t16) rfl (by kernel_rfl) (by kernel_rfl) (by kernel_rfl) (fun _ _ _ h => h) (Or.inl ⟨by rfl, ?hy10_t16⟩) (by assumption) ?rest10_t16
          case hy10_t16 => intro w hSw; (try dsimp only at hSw); go_simp; (try with_reducible rfl)
          try simp only [Act.put, List.getElem_toArray, List.getElem_cons_succ, List.getElem_cons_zero, List.setIfInBounds_toArray, List.set_cons_zero, List.set_cons_succ]
          refine wpAnyH_done (by kernel_rfl) ?_ _
          refine NoPanic.normal ?_
          obtain ⟨Wf, hWf⟩ : ∃ W, W = (v12.setCell ⟨v4.heap.size, 0, none⟩ (.slice buW0 nuW0 cuW0)).setCell ⟨v4.heap.size, 1, none⟩ (.slice buW0b nuW0b cuW0b) := ⟨_, rfl⟩
          rw [← hWf]
          have f0 : Below w4.heap.size w4 Wf := by rw [hWf]; exact (cv12.setCell (by simp only []; omega) _).setCell (by simp only []; omega) _
          have f1 : v12.heap.size = Wf.heap.size := by rw [hWf]; simp [World.setCell]
          have f2 : Wf.cell? ⟨v4.heap.size, 0, none⟩ = some (.slice buW0 nuW0 cuW0) := by rw [hWf]; simp [go_sem, n_0, n_1]
          have f3 : Wf.cell? ⟨v4.heap.size, 1, none⟩ = some (.slice buW0b nuW0b cuW0b) := by rw [hWf]; simp [go_sem, n_0, n_1]
          have f4 : Own oAn v11.heap.size v12.heap.size Wf [.slice buW0 nuW0 cuW0, .slice buW0b nuW0b cuW0b] (evalM x0 x1 (fullMask x1)) := by rw [hWf]; exact Own.setOff (Own.setOff W0 rfl (by simp only []; omega)) rfl (by simp only []; omega)
          obtain ⟨BB, hBB⟩ : ∃ B, B = v4.heap.size := ⟨_, rfl⟩
          rw [← hBB] at f2 f3 ⊢
          have f5 : w4.heap.size ≤ BB ∧ BB < Wf.heap.size := by omega
          have f6 : w4.heap.size ≤ v11.heap.size ∧ v11.heap.size ≤ v12.heap.size ∧ v12.heap.size ≤ Wf.heap.size ∧ (BB < v11.heap.size ∨ v12.heap.size ≤ BB) := by omega
          have fin : ∃ lo hi, w4.heap.size ≤ lo ∧ lo ≤ hi ∧ hi ≤ Wf.heap.size ∧ (BB < lo ∨ hi ≤ BB) ∧ Own oAn lo hi Wf [.slice buW0 nuW0 cuW0, .slice buW0b nuW0b cuW0b] (evalM x0 x1 (fullMask x1)) := ⟨_, _, f6.1, f6.2.1, f6.2.2.1, f6.2.2.2, f4⟩
          clear f4 f6 hWf f1 hBB
          exact key BB Wf but0 nut0 cut0 but1 nut1 cut1 buW0 nuW0 cuW0 buW0b nuW0b cuW0b ⟨f0, f5.1, f5.2, ⟨f2, f3⟩, fin⟩
      · skip
        go_simp
        obtain ⟨v17, hwv17⟩ : ∃ W, W = v3.alloc (.cells #[.slice none 0 0, .slice none 0 0] 49) := ⟨_, rfl⟩
        have n_0 : v17.cell? ⟨v3.heap.size, 0, none⟩ = some (.slice none 0 0) := by rw [hwv17]; exact box_cell (Below.refl _ _) rfl
        have n_1 : v17.cell? ⟨v3.heap.size, 1, none⟩ = some (.slice none 0 0) := by rw [hwv17]; exact box_cell (Below.refl _ _) rfl
        have n_f0 : v17.frozen? ⟨v3.heap.size, 0, none⟩ = false := by rw [hwv17]; exact box_frozen (Below.refl _ _)
        have n_f1 : v17.frozen? ⟨v3.heap.size, 1, none⟩ = false := by rw [hwv17]; exact box_frozen (Below.refl _ _)
        have y17 : Below v3.heap.size v3 v17 := by rw [hwv17]; exact ((Below.refl _ _).alloc (Nat.le_refl _) _)
        have y17s : v3.heap.size < v17.heap.size := by rw [hwv17]; show _ < (v3.alloc _).heap.size; simp
        have gv17 := on gv3 y17
        have Sv17 := (⟨(y17.cell (p := ⟨w.heap.size, 0, none⟩) (by simp only []; omega)).trans Sv3.1, (y17.cell (p := ⟨w.heap.size + 1, 0, none⟩) (by simp only []; omega)).trans Sv3.2.1, (y17.cell (p := ⟨w.heap.size + 1, 1, none⟩) (by simp only []; omega)).trans Sv3.2.2⟩ : (fun W => W.cell? ⟨w.heap.size, 0, none⟩ = some (.slice bu0 nu0 cu0) ∧ W.cell? ⟨w.heap.size + 1, 0, none⟩ = some (.int .i64 x1.1) ∧ W.cell? ⟨w.heap.size + 1, 1, none⟩ = some (.slice bu1 nu1 cu1)) v17)
        have cv17 := on y3 y17
        replace t0 := t0.below y17 (by omega)
        rw [← hwv17]
        clear hwv17
        refine hK.out _ _ ?_ (fun hHeld => ?_)
        · exact Sv17
        clear hK K
        try simp only [Act.put, List.setIfInBounds_toArray, List.set_cons_zero, List.set_cons_succ]
        refine wpAnyH_ready (rs := [3]) (by kernel_rfl) (by simp) ?_
        refine AllReadyH.cons rfl (fun K hK => ?_) AllReadyH.nil
        go_simp
        refine (to_Q _ x1 _ (rQ.mono h1 (gv17)) (by omega)).mono ?_
        rintro e v18 ⟨ct1, rfl, t1, y18⟩
        obtain ⟨but1, nut1, cut1, rfl⟩ := oQ_form t1
        have y18s := y18.size
        have gv18 := on gv17 y18
        have Sv18 := (⟨(y18.cell (p := ⟨w.heap.size, 0, none⟩) (by simp only []; omega)).trans Sv17.1, (y18.cell (p := ⟨w.heap.size + 1, 0, none⟩) (by simp only []; omega)).trans Sv17.2.1, (y18.cell (p := ⟨w.heap.size + 1, 1, none⟩) (by simp only []; omega)).trans Sv17.2.2⟩ : (fun W => W.cell? ⟨w.heap.size, 0, none⟩ = some (.slice bu0 nu0 cu0) ∧ W.cell? ⟨w.heap.size + 1, 0, none⟩ = some (.int .i64 x1.1) ∧ W.cell? ⟨w.heap.size + 1, 1, none⟩ = some (.slice bu1 nu1 cu1)) v18)
        have cv18 := on cv17 y18
        replace t0 := t0.below y18 (by omega)
        replace n_0 := (y18.cell (p := ⟨v3.heap.size, 0, none⟩) (by simp only []; omega)).trans n_0
        replace n_1 := (y18.cell (p := ⟨v3.heap.size, 1, none⟩) (by simp only []; omega)).trans n_1
        replace n_f0 := (y18.frozen (p := ⟨v3.heap.size, 0, none⟩) (by simp only []; omega)).trans n_f0
        replace n_f1 := (y18.frozen (p := ⟨v3.heap.size, 1, none⟩) (by simp only []; omega)).trans n_f1
        refine hK.out _ _ ?_ (fun hHeld => ?_)
        · exact Sv18
        clear hK K
        try simp only [Act.put, List.setIfInBounds_toArray, List.set_cons_zero, List.set_cons_succ]
        refine wpAnyH_ready (rs := [4]) (by kernel_rfl) (by simp) ?_
        refine AllReadyH.cons rfl (fun K hK => ?_) AllReadyH.nil
        go_simp
        refine (evalQ_spec _ _ x0 x1 _ (t0.rd reads_Db) (t1.rd reads_Q)).mono ?_
        rintro e v19 ⟨cW0, rfl, W0, y19⟩
        obtain ⟨buW0, nuW0, cuW0, buW0b, nuW0b, cuW0b, rfl⟩ := oAn_form W0
        have y19s := y19.size
        have gv19 := on gv18 y19
        have Sv19 := (⟨(y19.cell (p := ⟨w.heap.size, 0, none⟩) (by simp only []; omega)).trans Sv18.1, (y19.cell (p := ⟨w.heap.size + 1, 0, none⟩) (by simp only []; omega)).trans Sv18.2.1, (y19.cell (p := ⟨w.heap.size + 1, 1, none⟩) (by simp only []; omega)).trans Sv18.2.2⟩ : (fun W => W.cell? ⟨w.heap.size, 0, none⟩ = some (.slice bu0 nu0 cu0) ∧ W.cell? ⟨w.heap.size + 1, 0, none⟩ = some (.int .i64 x1.1) ∧ W.cell? ⟨w.heap.size + 1, 1, none⟩ = some (.slice bu1 nu1 cu1)) v19)
        have cv19 := on cv18 y19
        replace n_0 := (y19.cell (p := ⟨v3.heap.size, 0, none⟩) (by simp only []; omega)).trans n_0
        replace n_1 := (y19.cell (p := ⟨v3.heap.size, 1, none⟩) (by simp only []; omega)).trans n_1
        replace n_f0 := (y19.frozen (p := ⟨v3.heap.size, 0, none⟩) (by simp only []; omega)).trans n_f0
        replace n_f1 := (y19.frozen (p := ⟨v3.heap.size, 1, none⟩) (by simp only []; omega)).trans n_f1
        refine hK.out _ _ ?_ (fun hHeld => ?_)
        · exact Sv19
        clear hK K
        try simp only [Act.put, List.setIfInBounds_toArray, List.set_cons_zero, List.set_cons_succ]
        refine wpAnyH_take (i := 5) (v := ?v5_t20) rfl (by kernel_rfl) (by kernel_rfl) (by kernel_rfl) (fun _ _ _ h => h) (Or.inl ⟨by rfl, ?hy5_t20⟩) (by assumption) ?rest5_t20
        case hy5_t20 => intro w hSw; (try dsimp only at hSw); go_simp; (try with_reducible rfl)
        try simp only [Act.put, List.getElem_toArray, List.getElem_cons_succ, List.getElem_cons_zero, List.setIfInBounds_toArray, List.set_cons_zero, List.set_cons_succ]
        refine wpAnyH_take (i := 6) (v := ?v6_t21) rfl (by kernel_rfl) (by kernel_rfl) (by kernel_rfl) (fun _ _ _ h => h) (Or.inl ⟨by rfl, ?hy6_t21⟩) (by assumption) ?rest6_t21
        case hy6_t21 => intro w hSw; (try dsimp only at hSw); go_simp; (try with_reducible rfl)
        try simp only [Act.put, List.getElem_toArray, List.getElem_cons_succ, List.getElem_cons_zero, List.setIfInBounds_toArray, List.set_cons_zero, List.set_cons_succ]
        refine wpAnyH_take (i := 7) (v := ?v7_t22) rfl (by kernel_rfl) (by kernel_rfl) (by kernel_rfl) (fun _ _ _ h => h) (Or.inl ⟨by rfl, ?hy7_t22⟩) (by assumption) ?rest7_t22
        case hy7_t22 => intro w hSw; (try dsimp only at hSw); go_simp; (try with_reducible rfl)
        try simp only [Act.put, List.getElem_toArray, List.getElem_cons_succ, List.getElem_cons_zero, List.setIfInBounds_toArray, List.set_cons_zero, List.set_cons_succ]
        refine wpAnyH_ready (rs := [9]) (by kernel_rfl) (by simp) ?_
        refine AllReadyH.cons rfl (fun K hK => ?_) AllReadyH.nil
        go_simp
        refine hK.out _ _ ?_ (fun hHeld => ?_)
        · exact ⟨cell_set (cell_set Sv19.1 (by simp only []; omega)) (by simp only []; omega), cell_set (cell_set Sv19.2.1 (by simp only []; omega)) (by simp only []; omega), cell_set (cell_set Sv19.2.2 (by simp only []; omega)) (by simp only []; omega)⟩
        clear hK K
        try simp only [Act.put, List.setIfInBounds_toArray, List.set_cons_zero, List.set_cons_succ]
        refine wpAnyH_take (i := 10) (v := ?v10_t23) rfl (by kernel_rfl) (by kernel_rfl) (by kernel_rfl) (fun _ _ _ h => h) (Or.inl ⟨by rfl, ?hy10_t23⟩) (by assumption) ?rest10_t23
        case hy10_t23 => intro w hSw; (try dsimp only at hSw); go_simp; (try with_reducible rfl)
        try simp only [Act.put, List.getElem_toArray, List.getElem_cons_succ, List.getElem_cons_zero, List.setIfInBounds_toArray, List.set_cons_zero, List.set_cons_succ]
        refine wpAnyH_done (by kernel_rfl) ?_ _
        refine NoPanic.normal ?_
        obtain ⟨Wf, hWf⟩ : ∃ W, W = (v19.setCell ⟨v3.heap.size, 0, none⟩ (.slice buW0 nuW0 cuW0)).setCell ⟨v3.heap.size, 1, none⟩ (.slice buW0b nuW0b cuW0b) := ⟨_, rfl⟩
        rw [← hWf]
        have f0 : Below w4.heap.size w4 Wf := by rw [hWf]; exact (cv19.setCell (by simp only []; omega) _).setCell (by simp only []; omega) _
        have f1 : v19.heap.size = Wf.heap.size := by rw [hWf]; simp [World.setCell]
        have f2 : Wf.cell? ⟨v3.heap.size, 0, none⟩ = some (.slice buW0 nuW0 cuW0) := by rw [hWf]; simp [go_sem, n_0, n_1]
        have f3 : Wf.cell? ⟨v3.heap.size, 1, none⟩ = some (.slice buW0b nuW0b cuW0b) := by rw [hWf]; simp [go_sem, n_0, n_1]
        have f4 : Own oAn v18.heap.size v19.heap.size Wf [.slice buW0 nuW0 cuW0, .slice buW0b nuW0b cuW0b] (evalM x0 x1 (fullMask x1)) := by rw [hWf]; exact Own.setOff (Own.setOff W0 rfl (by simp only []; omega)) rfl (by simp only []; omega)
        obtain ⟨BB, hBB⟩ : ∃ B, B = v3.heap.size := ⟨_, rfl⟩
        rw [← hBB] at f2 f3 ⊢
        have f5 : w4.heap.size ≤ BB ∧ BB < Wf.heap.size := by omega
        have f6 : w4.heap.size ≤ v18.heap.size ∧ v18.heap.size ≤ v19.heap.size ∧ v19.heap.size ≤ Wf.heap.size ∧ (BB < v18.heap.size ∨ v19.heap.size ≤ BB) := by omega
        have fin : ∃ lo hi, w4.heap.size ≤ lo ∧ lo ≤ hi ∧ hi ≤ Wf.heap.size ∧ (BB < lo ∨ hi ≤ BB) ∧ Own oAn lo hi Wf [.slice buW0 nuW0 cuW0, .slice buW0b nuW0b cuW0b] (evalM x0 x1 (fullMask x1)) := ⟨_, _, f6.1, f6.2.1, f6.2.2.1, f6.2.2.2, f4⟩
        clear f4 f6 hWf f1 hBB
        exact key BB Wf but0 nut0 cut0 but1 nut1 cut1 buW0 nuW0 cuW0 buW0b nuW0b cuW0b ⟨f0, f5.1, f5.2, ⟨f2, f3⟩, fin⟩
    · skip
      go_simp
      obtain ⟨v24, hwv24⟩ : ∃ W, W = (w4.alloc (.cells #[.slice none 0 0, .slice none 0 0] 49)).drew := ⟨_, rfl⟩
      have n_0 : v24.cell? ⟨w4.heap.size, 0, none⟩ = some (.slice none 0 0) := by rw [hwv24]; exact box_cell (Below.refl _ _).drew rfl
      have n_1 : v24.cell? ⟨w4.heap.size, 1, none⟩ = some (.slice none 0 0) := by rw [hwv24]; exact box_cell (Below.refl _ _).drew rfl
      have n_f0 : v24.frozen? ⟨w4.heap.size, 0, none⟩ = false := by rw [hwv24]; exact box_frozen (Below.refl _ _).drew
      have n_f1 : v24.frozen? ⟨w4.heap.size, 1, none⟩ = false := by rw [hwv24]; exact box_frozen (Below.refl _ _).drew
      have y24 : Below w4.heap.size w4 v24 := by rw [hwv24]; exact ((Below.refl _ _).alloc (Nat.le_refl _) _).drew
      have y24s : w4.heap.size < v24.heap.size := by rw [hwv24]; show _ < (w4.alloc _).heap.size; simp
      have gv24 := on hb4 y24
      have Sv24 := (⟨(y24.cell (p := ⟨w.heap.size, 0, none⟩) (by simp only []; omega)).trans bp0_0, (y24.cell (p := ⟨w.heap.size + 1, 0, none⟩) (by simp only []; omega)).trans bp1_0, (y24.cell (p := ⟨w.heap.size + 1, 1, none⟩) (by simp only []; omega)).trans bp1_1⟩ : (fun W => W.cell? ⟨w.heap.size, 0, none⟩ = some (.slice bu0 nu0 cu0) ∧ W.cell? ⟨w.heap.size + 1, 0, none⟩ = some (.int .i64 x1.1) ∧ W.cell? ⟨w.heap.size + 1, 1, none⟩ = some (.slice bu1 nu1 cu1)) v24)
      rw [← hwv24]
      clear hwv24
      refine hK.out _ _ ?_ (fun hHeld => ?_)
      · exact Sv24
      clear hK K
      try simp only [Act.put, List.setIfInBounds_toArray, List.set_cons_zero, List.set_cons_succ]
      refine wpAnyH_ready (rs := [1]) (by kernel_rfl) (by simp) ?_
      refine AllReadyH.cons rfl (fun K hK => ?_) AllReadyH.nil
      go_simp
      refine (to_Db _ x0 _ (rDb.mono h0 (gv24)) (by omega)).mono ?_
      rintro e v25 ⟨ct0, rfl, t0, y25⟩
      obtain ⟨but0, nut0, cut0, rfl⟩ := oDb_form t0
      have y25s := y25.size
      have gv25 := on gv24 y25
      have Sv25 := (⟨(y25.cell (p := ⟨w.heap.size, 0, none⟩) (by simp only []; omega)).trans Sv24.1, (y25.cell (p := ⟨w.heap.size + 1, 0, none⟩) (by simp only []; omega)).trans Sv24.2.1, (y25.cell (p := ⟨w.heap.size + 1, 1, none⟩) (by simp only []; omega)).trans Sv24.2.2⟩ : (fun W => W.cell? ⟨w.heap.size, 0, none⟩ = some (.slice bu0 nu0 cu0) ∧ W.cell? ⟨w.heap.size + 1, 0, none⟩ = some (.int .i64 x1.1) ∧ W.cell? ⟨w.heap.size + 1, 1, none⟩ = some (.slice bu1 nu1 cu1)) v25)
      have cv25 := on y24 y25
      replace n_0 := (y25.cell (p := ⟨w4.heap.size, 0, none⟩) (by simp only []; omega)).trans n_0
      replace n_1 := (y25.cell (p := ⟨w4.heap.size, 1, none⟩) (by simp only []; omega)).trans n_1
      replace n_f0 := (y25.frozen (p := ⟨w4.heap.size, 0, none⟩) (by simp only []; omega)).trans n_f0
      replace n_f1 := (y25.frozen (p := ⟨w4.heap.size, 1, none⟩) (by simp only []; omega)).trans n_f1
      refine hK.out _ _ ?_ (fun hHeld => ?_)
      · exact Sv25
      clear hK K
      try simp only [Act.put, List.setIfInBounds_toArray, List.set_cons_zero, List.set_cons_succ]
      refine wpAnyH_ready (rs := [3]) (by kernel_rfl) (by simp) ?_
      refine AllReadyH.cons rfl (fun K hK => ?_) AllReadyH.nil
      go_simp
      refine (to_Q _ x1 _ (rQ.mono h1 (gv25)) (by omega)).mono ?_
      rintro e v26 ⟨ct1, rfl, t1, y26⟩
      obtain ⟨but1, nut1, cut1, rfl⟩ := oQ_form t1
      have y26s := y26.size
      have gv26 := on gv25 y26
      have Sv26 := (⟨(y26.cell (p := ⟨w.heap.size, 0, none⟩) (by simp only []; omega)).trans Sv25.1, (y26.cell (p := ⟨w.heap.size + 1, 0, none⟩) (by simp only []; omega)).trans Sv25.2.1, (y26.cell (p := ⟨w.heap.size + 1, 1, none⟩) (by simp only []; omega)).trans Sv25.2.2⟩ : (fun W => W.cell? ⟨w.heap.size, 0, none⟩ = some (.slice bu0 nu0 cu0) ∧ W.cell? ⟨w.heap.size + 1, 0, none⟩ = some (.int .i64 x1.1) ∧ W.cell? ⟨w.heap.size + 1, 1, none⟩ = some (.slice bu1 nu1 cu1)) v26)
      have cv26 := on cv25 y26
      replace t0 := t0.below y26 (by omega)
      replace n_0 := (y26.cell (p := ⟨w4.heap.size, 0, none⟩) (by simp only []; omega)).trans n_0
      replace n_1 := (y26.cell (p := ⟨w4.heap.size, 1, none⟩) (by simp only []; omega)).trans n_1
      replace n_f0 := (y26.frozen (p := ⟨w4.heap.size, 0, none⟩) (by simp only []; omega)).trans n_f0
      replace n_f1 := (y26.frozen (p := ⟨w4.heap.size, 1, none⟩) (by simp only []; omega)).trans n_f1
      refine hK.out _ _ ?_ (fun hHeld => ?_)
      · exact Sv26
      clear hK K
      try simp only [Act.put, List.setIfInBounds_toArray, List.set_cons_zero, List.set_cons_succ]
      refine wpAnyH_ready (rs := [4]) (by kernel_rfl) (by simp) ?_
      refine AllReadyH.cons rfl (fun K hK => ?_) AllReadyH.nil
      go_simp
      refine (evalQ_spec _ _ x0 x1 _ (t0.rd reads_Db) (t1.rd reads_Q)).mono ?_
      rintro e v27 ⟨cW0, rfl, W0, y27⟩
      obtain ⟨buW0, nuW0, cuW0, buW0b, nuW0b, cuW0b, rfl⟩ := oAn_form W0
      have y27s := y27.size
      have gv27 := on gv26 y27
      have Sv27 := (⟨(y27.cell (p := ⟨w.heap.size, 0, none⟩) (by simp only []; omega)).trans Sv26.1, (y27.cell (p := ⟨w.heap.size + 1, 0, none⟩) (by simp only []; omega)).trans Sv26.2.1, (y27.cell (p := ⟨w.heap.size + 1, 1, none⟩) (by simp only []; omega)).trans Sv26.2.2⟩ : (fun W => W.cell? ⟨w.heap.size, 0, none⟩ = some (.slice bu0 nu0 cu0) ∧ W.cell? ⟨w.heap.size + 1, 0, none⟩ = some (.int .i64 x1.1) ∧ W.cell? ⟨w.heap.size + 1, 1, none⟩ = some (.slice bu1 nu1 cu1)) v27)
      have cv27 := on cv26 y27
      replace n_0 := (y27.cell (p := ⟨w4.heap.size, 0, none⟩) (by simp only []; omega)).trans n_0
      replace n_1 := (y27.cell (p := ⟨w4.heap.size, 1, none⟩) (by simp only []; omega)).trans n_1
      replace n_f0 := (y27.frozen (p := ⟨w4.heap.size, 0, none⟩) (by simp only []; omega)).trans n_f0
      replace n_f1 := (y27.frozen (p := ⟨w4.heap.size, 1, none⟩) (by simp only []; omega)).trans n_f1
      refine hK.out _ _ ?_ (fun hHeld => ?_)
      · exact Sv27
      clear hK K
      try simp only [Act.put, List.setIfInBounds_toArray, List.set_cons_zero, List.set_cons_succ]
      refine wpAnyH_take (i := 5) (v := ?v5_t28) rfl (by kernel_rfl) (by kernel_rfl) (by kernel_rfl) (fun _ _ _ h => h) (Or.inl ⟨by rfl, ?hy5_t28⟩) (by assumption) ?rest5_t28
      case hy5_t28 => intro w hSw; (try dsimp only at hSw); go_simp; (try with_reducible rfl)
      try simp only [Act.put, List.getElem_toArray, List.getElem_cons_succ, List.getElem_cons_zero, List.setIfInBounds_toArray, List.set_cons_zero, List.set_cons_succ]
      refine wpAnyH_take (i := 6) (v := ?v6_t29) rfl (by kernel_rfl) (by kernel_rfl) (by kernel_rfl) (fun _ _ _ h => h) (Or.inl ⟨by rfl, ?hy6_t29⟩) (by assumption) ?rest6_t29
      case hy6_t29 => intro w hSw; (try dsimp only at hSw); go_simp; (try with_reducible rfl)
      try simp only [Act.put, List.getElem_toArray, List.getElem_cons_succ, List.getElem_cons_zero, List.setIfInBounds_toArray, List.set_cons_zero, List.set_cons_succ]
      refine wpAnyH_take (i := 7) (v := ?v7_t30) rfl (by kernel_rfl) (by kernel_rfl) (by kernel_rfl) (fun _ _ _ h => h) (Or.inl ⟨by rfl, ?hy7_t30⟩) (by assumption) ?rest7_t30
      case hy7_t30 => intro w hSw; (try dsimp only at hSw); go_simp; (try with_reducible rfl)
      try simp only [Act.put, List.getElem_toArray, List.getElem_cons_succ, List.getElem_cons_zero, List.setIfInBounds_toArray, List.set_cons_zero, List.set_cons_succ]
      refine wpAnyH_ready (rs := [9]) (by kernel_rfl) (by simp) ?_
      refine AllReadyH.cons rfl (fun K hK => ?_) AllReadyH.nil
      go_simp
      refine hK.out _ _ ?_ (fun hHeld => ?_)
      · exact ⟨cell_set (cell_set Sv27.1 (by simp only []; omega)) (by simp only []; omega), cell_set (cell_set Sv27.2.1 (by simp only []; omega)) (by simp only []; omega), cell_set (cell_set Sv27.2.2 (by simp only []; omega)) (by simp only []; omega)⟩
      clear hK K
      try simp only [Act.put, List.setIfInBounds_toArray, List.set_cons_zero, List.set_cons_succ]
      refine wpAnyH_take (i := 10) (v := ?v10_t31) rfl (by kernel_rfl) (by kernel_rfl) (by kernel_rfl) (fun _ _ _ h => h) (Or.inl ⟨by rfl, ?hy10_t31⟩) (by assumption) ?rest10_t31
      case hy10_t31 => intro w hSw; (try dsimp only at hSw); go_simp; (try with_reducible rfl)
      try simp only [Act.put, List.getElem_toArray, List.getElem_cons_succ, List.getElem_cons_zero, List.setIfInBounds_toArray, List.set_cons_zero, List.set_cons_succ]
      refine wpAnyH_done (by kernel_rfl) ?_ _
      refine NoPanic.normal ?_
      obtain ⟨Wf, hWf⟩ : ∃ W, W = (v27.setCell ⟨w4.heap.size, 0, none⟩ (.slice buW0 nuW0 cuW0)).setCell ⟨w4.heap.size, 1, none⟩ (.slice buW0b nuW0b cuW0b) := ⟨_, rfl⟩
      rw [← hWf]
      have f0 : Below w4.heap.size w4 Wf := by rw [hWf]; exact (cv27.setCell (by simp only []; omega) _).setCell (by simp only []; omega) _
      have f1 : v27.heap.size = Wf.heap.size := by rw [hWf]; simp [World.setCell]
      have f2 : Wf.cell? ⟨w4.heap.size, 0, none⟩ = some (.slice buW0 nuW0 cuW0) := by rw [hWf]; simp [go_sem, n_0, n_1]
      have f3 : Wf.cell? ⟨w4.heap.size, 1, none⟩ = some (.slice buW0b nuW0b cuW0b) := by rw [hWf]; simp [go_sem, n_0, n_1]
      have f4 : Own oAn v26.heap.size v27.heap.size Wf [.slice buW0 nuW0 cuW0, .slice buW0b nuW0b cuW0b] (evalM x0 x1 (fullMask x1)) := by rw [hWf]; exact Own.setOff (Own.setOff W0 rfl (by simp only []; omega)) rfl (by simp only []; omega)
      obtain ⟨BB, hBB⟩ : ∃ B, B = w4.heap.size := ⟨_, rfl⟩
      rw [← hBB] at f2 f3 ⊢
      have f5 : w4.heap.size ≤ BB ∧ BB < Wf.heap.size := by omega
      have f6 : w4.heap.size ≤ v26.heap.size ∧ v26.heap.size ≤ v27.heap.size ∧ v27.heap.size ≤ Wf.heap.size ∧ (BB < v26.heap.size ∨ v27.heap.size ≤ BB) := by omega
      have fin : ∃ lo hi, w4.heap.size ≤ lo ∧ lo ≤ hi ∧ hi ≤ Wf.heap.size ∧ (BB < lo ∨ hi ≤ BB) ∧ Own oAn lo hi Wf [.slice buW0 nuW0 cuW0, .slice buW0b nuW0b cuW0b] (evalM x0 x1 (fullMask x1)) := ⟨_, _, f6.1, f6.2.1, f6.2.2.1, f6.2.2.2, f4⟩
      clear f4 f6 hWf f1 hBB
      exact key BB Wf but0 nut0 cut0 but1 nut1 cut1 buW0 nuW0 cuW0 buW0b nuW0b cuW0b ⟨f0, f5.1, f5.2, ⟨f2, f3⟩, fin⟩
  intro BW0 w5 but0 nut0 cut0 but1 nut1 cut1 buW0 nuW0 cuW0 buW0b nuW0b cuW0b hF
  obtain ⟨z5, BW0q, BW0r, ⟨bW0_0, bW0_1⟩, loW0, hiW0, BW0a, BW0b, BW0c, BW0d, W0⟩ := hF
  have s5 := z5.size
  have hb5 := on hb4 z5
  replace bp0_0 := (z5.cell (p := ⟨w.heap.size, 0, none⟩) (by simp only []; omega)).trans bp0_0
  replace bp1_0 := (z5.cell (p := ⟨w.heap.size + 1, 0, none⟩) (by simp only []; omega)).trans bp1_0
  replace bp1_1 := (z5.cell (p := ⟨w.heap.size + 1, 1, none⟩) (by simp only []; omega)).trans bp1_1
  go_wp2_with fail
  refine (to_Db _ _ _ (rDb.mono h0 hb5) (by omega)).mono ?_
  rintro e w6 ⟨cy0, rfl, y0, z6⟩
  have s6 := z6.size
  have hb6 := on hb5 z6
  replace W0 := W0.below z6 (by omega)
  replace bp0_0 := (z6.cell (p := ⟨w.heap.size, 0, none⟩) (by simp only []; omega)).trans bp0_0
  replace bp1_0 := (z6.cell (p := ⟨w.heap.size + 1, 0, none⟩) (by simp only []; omega)).trans bp1_0
  replace bp1_1 := (z6.cell (p := ⟨w.heap.size + 1, 1, none⟩) (by simp only []; omega)).trans bp1_1
  replace bW0_0 := (z6.cell (p := ⟨BW0, 0, none⟩) (by simp only []; omega)).trans bW0_0
  replace bW0_1 := (z6.cell (p := ⟨BW0, 1, none⟩) (by simp only []; omega)).trans bW0_1
  obtain ⟨buy0, nuy0, cuy0, rfl⟩ := oDb_form y0
  obtain ⟨w7, hw7⟩ : ∃ W, W = w6.alloc (.cells #[.slice buy0 nuy0 cuy0] 34) := ⟨_, rfl⟩
  have z7 : Below w6.heap.size w6 w7 := by rw [hw7]; exact (Below.refl _ _).alloc (Nat.le_refl _) _
  have s7 : w7.heap.size = w6.heap.size + 1 := by rw [hw7]; simp
  have hb7 := on hb6 z7
  replace W0 := W0.below z7 (by omega)
  replace y0 := y0.below z7 (by omega)
  replace bp0_0 := (z7.cell (p := ⟨w.heap.size, 0, none⟩) (by simp only []; omega)).trans bp0_0
  replace bp1_0 := (z7.cell (p := ⟨w.heap.size + 1, 0, none⟩) (by simp only []; omega)).trans bp1_0
  replace bp1_1 := (z7.cell (p := ⟨w.heap.size + 1, 1, none⟩) (by simp only []; omega)).trans bp1_1
  replace bW0_0 := (z7.cell (p := ⟨BW0, 0, none⟩) (by simp only []; omega)).trans bW0_0
  replace bW0_1 := (z7.cell (p := ⟨BW0, 1, none⟩) (by simp only []; omega)).trans bW0_1
  have by0_0 : w7.cell? ⟨w6.heap.size, 0, none⟩ = some (.slice buy0 nuy0 cuy0) := by rw [hw7]; exact box_cell (Below.refl _ _) rfl
  have raw_bp0_0 := bp0_0
  rw [hw7] at raw_bp0_0
  have raw_bp1_0 := bp1_0
  rw [hw7] at raw_bp1_0
  have raw_bp1_1 := bp1_1
  rw [hw7] at raw_bp1_1
  have raw_bW0_0 := bW0_0
  rw [hw7] at raw_bW0_0
  have raw_bW0_1 := bW0_1
  rw [hw7] at raw_bW0_1
  have raw_by0_0 := by0_0
  rw [hw7] at raw_by0_0
  go_wp2_with fail
  rw [← hw7]
  clear hw7
  clear raw_bp0_0 raw_bp1_0 raw_bp1_1 raw_bW0_0 raw_bW0_1 raw_by0_0
  refine (to_Q _ _ _ (rQ.mono h1 hb7) (by omega)).mono ?_
  rintro e w8 ⟨cy1, rfl, y1, z8⟩
  have s8 := z8.size
  have hb8 := on hb7 z8
  replace W0 := W0.below z8 (by omega)
  replace y0 := y0.below z8 (by omega)
  replace bp0_0 := (z8.cell (p := ⟨w.heap.size, 0, none⟩) (by simp only []; omega)).trans bp0_0
  replace bp1_0 := (z8.cell (p := ⟨w.heap.size + 1, 0, none⟩) (by simp only []; omega)).trans bp1_0
  replace bp1_1 := (z8.cell (p := ⟨w.heap.size + 1, 1, none⟩) (by simp only []; omega)).trans bp1_1
  replace bW0_0 := (z8.cell (p := ⟨BW0, 0, none⟩) (by simp only []; omega)).trans bW0_0
  replace bW0_1 := (z8.cell (p := ⟨BW0, 1, none⟩) (by simp only []; omega)).trans bW0_1
  replace by0_0 := (z8.cell (p := ⟨w6.heap.size, 0, none⟩) (by simp only []; omega)).trans by0_0
  obtain ⟨buy1, nuy1, cuy1, rfl⟩ := oQ_form y1
  obtain ⟨w9, hw9⟩ : ∃ W, W = w8.alloc (.cells #[.int .i64 x1.1, .slice buy1 nuy1 cuy1] 38) := ⟨_, rfl⟩
  have z9 : Below w8.heap.size w8 w9 := by rw [hw9]; exact (Below.refl _ _).alloc (Nat.le_refl _) _
  have s9 : w9.heap.size = w8.heap.size + 1 := by rw [hw9]; simp
  have hb9 := on hb8 z9
  replace W0 := W0.below z9 (by omega)
  replace y0 := y0.below z9 (by omega)
  replace y1 := y1.below z9 (by omega)
  replace bp0_0 := (z9.cell (p := ⟨w.heap.size, 0, none⟩) (by simp only []; omega)).trans bp0_0
  replace bp1_0 := (z9.cell (p := ⟨w.heap.size + 1, 0, none⟩) (by simp only []; omega)).trans bp1_0
  replace bp1_1 := (z9.cell (p := ⟨w.heap.size + 1, 1, none⟩) (by simp only []; omega)).trans bp1_1
  replace bW0_0 := (z9.cell (p := ⟨BW0, 0, none⟩) (by simp only []; omega)).trans bW0_0
  replace bW0_1 := (z9.cell (p := ⟨BW0, 1, none⟩) (by simp only []; omega)).trans bW0_1
  replace by0_0 := (z9.cell (p := ⟨w6.heap.size, 0, none⟩) (by simp only []; omega)).trans by0_0
  have by1_0 : w9.cell? ⟨w8.heap.size, 0, none⟩ = some (.int .i64 x1.1) := by rw [hw9]; exact box_cell (Below.refl _ _) rfl
  have by1_1 : w9.cell? ⟨w8.heap.size, 1, none⟩ = some (.slice buy1 nuy1 cuy1) := by rw [hw9]; exact box_cell (Below.refl _ _) rfl
  have raw_bp0_0 := bp0_0
  rw [hw9] at raw_bp0_0
  have raw_bp1_0 := bp1_0
  rw [hw9] at raw_bp1_0
  have raw_bp1_1 := bp1_1
  rw [hw9] at raw_bp1_1
  have raw_bW0_0 := bW0_0
  rw [hw9] at raw_bW0_0
  have raw_bW0_1 := bW0_1
  rw [hw9] at raw_bW0_1
  have raw_by0_0 := by0_0
  rw [hw9] at raw_by0_0
  have raw_by1_0 := by1_0
  rw [hw9] at raw_by1_0
  have raw_by1_1 := by1_1
  rw [hw9] at raw_by1_1
  go_wp2_with fail
  rw [← hw9]
  clear hw9
  clear raw_bp0_0 raw_bp1_0 raw_bp1_1 raw_bW0_0 raw_bW0_1 raw_by0_0 raw_by1_0 raw_by1_1
  refine (evalQ_impl _ _ x0 x1 _ (y0.rd reads_Db) (y1.rd reads_Q)).mono ?_
  rintro e w10 ⟨cG0, rfl, G0, z10⟩
  have s10 := z10.size
  have hb10 := on hb9 z10
  replace W0 := W0.below z10 (by omega)
  replace y0 := y0.below z10 (by omega)
  replace y1 := y1.below z10 (by omega)
  replace bp0_0 := (z10.cell (p := ⟨w.heap.size, 0, none⟩) (by simp only []; omega)).trans bp0_0
  replace bp1_0 := (z10.cell (p := ⟨w.heap.size + 1, 0, none⟩) (by simp only []; omega)).trans bp1_0
  replace bp1_1 := (z10.cell (p := ⟨w.heap.size + 1, 1, none⟩) (by simp only []; omega)).trans bp1_1
  replace bW0_0 := (z10.cell (p := ⟨BW0, 0, none⟩) (by simp only []; omega)).trans bW0_0
  replace bW0_1 := (z10.cell (p := ⟨BW0, 1, none⟩) (by simp only []; omega)).trans bW0_1
  replace by0_0 := (z10.cell (p := ⟨w6.heap.size, 0, none⟩) (by simp only []; omega)).trans by0_0
  replace by1_0 := (z10.cell (p := ⟨w8.heap.size, 0, none⟩) (by simp only []; omega)).trans by1_0
  replace by1_1 := (z10.cell (p := ⟨w8.heap.size, 1, none⟩) (by simp only []; omega)).trans by1_1
  obtain ⟨buG0, nuG0, cuG0, buG0b, nuG0b, cuG0b, rfl⟩ := oAn_form G0
  obtain ⟨w11, hw11⟩ : ∃ W, W = w10.alloc (.cells #[.slice buG0 nuG0 cuG0, .slice buG0b nuG0b cuG0b] 49) := ⟨_, rfl⟩
  have z11 : Below w10.heap.size w10 w11 := by rw [hw11]; exact (Below.refl _ _).alloc (Nat.le_refl _) _
  have s11 : w11.heap.size = w10.heap.size + 1 := by rw [hw11]; simp
  have hb11 := on hb10 z11
  replace W0 := W0.below z11 (by omega)
  replace y0 := y0.below z11 (by omega)
  replace y1 := y1.below z11 (by omega)
  replace G0 := G0.below z11 (by omega)
  replace bp0_0 := (z11.cell (p := ⟨w.heap.size, 0, none⟩) (by simp only []; omega)).trans bp0_0
  replace bp1_0 := (z11.cell (p := ⟨w.heap.size + 1, 0, none⟩) (by simp only []; omega)).trans bp1_0
  replace bp1_1 := (z11.cell (p := ⟨w.heap.size + 1, 1, none⟩) (by simp only []; omega)).trans bp1_1
  replace bW0_0 := (z11.cell (p := ⟨BW0, 0, none⟩) (by simp only []; omega)).trans bW0_0
  replace bW0_1 := (z11.cell (p := ⟨BW0, 1, none⟩) (by simp only []; omega)).trans bW0_1
  replace by0_0 := (z11.cell (p := ⟨w6.heap.size, 0, none⟩) (by simp only []; omega)).trans by0_0
  replace by1_0 := (z11.cell (p := ⟨w8.heap.size, 0, none⟩) (by simp only []; omega)).trans by1_0
  replace by1_1 := (z11.cell (p := ⟨w8.heap.size, 1, none⟩) (by simp only []; omega)).trans by1_1
  have bG0_0 : w11.cell? ⟨w10.heap.size, 0, none⟩ = some (.slice buG0 nuG0 cuG0) := by rw [hw11]; exact box_cell (Below.refl _ _) rfl
  have bG0_1 : w11.cell? ⟨w10.heap.size, 1, none⟩ = some (.slice buG0b nuG0b cuG0b) := by rw [hw11]; exact box_cell (Below.refl _ _) rfl
  have raw_bp0_0 := bp0_0
  rw [hw11] at raw_bp0_0
  have raw_bp1_0 := bp1_0
  rw [hw11] at raw_bp1_0
  have raw_bp1_1 := bp1_1
  rw [hw11] at raw_bp1_1
  have raw_bW0_0 := bW0_0
  rw [hw11] at raw_bW0_0
  have raw_bW0_1 := bW0_1
  rw [hw11] at raw_bW0_1
  have raw_by0_0 := by0_0
  rw [hw11] at raw_by0_0
  have raw_by1_0 := by1_0
  rw [hw11] at raw_by1_0
  have raw_by1_1 := by1_1
  rw [hw11] at raw_by1_1
  have raw_bG0_0 := bG0_0
  rw [hw11] at raw_bG0_0
  have raw_bG0_1 := bG0_1
  rw [hw11] at raw_bG0_1
  go_wp2_with fail
  rw [← hw11]
  clear hw11
  clear raw_bp0_0 raw_bp1_0 raw_bp1_1 raw_bW0_0 raw_bW0_1 raw_by0_0 raw_by1_0 raw_by1_1 raw_bG0_0 raw_bG0_1
  refine (eq_An _ _ _ _ _ (G0.rd reads_An) (W0.rd reads_An)).mono ?_
  rintro e w12 ⟨rfl, z12⟩
  have s12 := z12.size
  have hb12 := on hb11 z12
  replace W0 := W0.below z12 (by omega)
  replace y0 := y0.below z12 (by omega)
  replace y1 := y1.below z12 (by omega)
  replace G0 := G0.below z12 (by omega)
  replace bp0_0 := (z12.cell (p := ⟨w.heap.size, 0, none⟩) (by simp only []; omega)).trans bp0_0
  replace bp1_0 := (z12.cell (p := ⟨w.heap.size + 1, 0, none⟩) (by simp only []; omega)).trans bp1_0
  replace bp1_1 := (z12.cell (p := ⟨w.heap.size + 1, 1, none⟩) (by simp only []; omega)).trans bp1_1
  replace bW0_0 := (z12.cell (p := ⟨BW0, 0, none⟩) (by simp only []; omega)).trans bW0_0
  replace bW0_1 := (z12.cell (p := ⟨BW0, 1, none⟩) (by simp only []; omega)).trans bW0_1
  replace by0_0 := (z12.cell (p := ⟨w6.heap.size, 0, none⟩) (by simp only []; omega)).trans by0_0
  replace by1_0 := (z12.cell (p := ⟨w8.heap.size, 0, none⟩) (by simp only []; omega)).trans by1_0
  replace by1_1 := (z12.cell (p := ⟨w8.heap.size, 1, none⟩) (by simp only []; omega)).trans by1_1
  replace bG0_0 := (z12.cell (p := ⟨w10.heap.size, 0, none⟩) (by simp only []; omega)).trans bG0_0
  replace bG0_1 := (z12.cell (p := ⟨w10.heap.size, 1, none⟩) (by simp only []; omega)).trans bG0_1
  go_wp2_with fail
  go_region_held3 (fun W => W.cell? ⟨w6.heap.size, 0, none⟩ = some (.slice buy0 nuy0 cuy0) ∧ W.cell? ⟨w.heap.size, 0, none⟩ = some (.slice bu0 nu0 cu0)) (first | exact ⟨by0_0, bp0_0⟩ | assumption) (first | (go_at_call 10; refine (to_Db _ x0 _ (rDb.mono h0 hb12.drew) (by omega)).mono ?_; rintro e w13 ⟨du0, rfl, u0, z13⟩; replace z13 : Below w12.heap.size w12 w13 := (Below.refl _ _).drew.trans z13; have hS0 := (⟨(z13.cell (p := ⟨w6.heap.size, 0, none⟩) (by simp only []; omega)).trans by0_0, (z13.cell (p := ⟨w.heap.size, 0, none⟩) (by simp only []; omega)).trans bp0_0⟩ : (fun W => W.cell? ⟨w6.heap.size, 0, none⟩ = some (.slice buy0 nuy0 cuy0) ∧ W.cell? ⟨w.heap.size, 0, none⟩ = some (.slice bu0 nu0 cu0)) w13); obtain ⟨buu0, nuu0, cuu0, rfl⟩ := oDb_form u0; have y0' := y0.below z13 (by omega)) | (go_at_call 14; refine (eq_Db _ _ x0 x0 _ (y0'.rd reads_Db) (u0.rd reads_Db)).mono ?_; rintro e w14 ⟨rfl, z14⟩; have s13 := z13.size; have hT0 := (⟨(z14.cell (p := ⟨w6.heap.size, 0, none⟩) (by simp only []; omega)).trans hS0.1, (z14.cell (p := ⟨w.heap.size, 0, none⟩) (by simp only []; omega)).trans hS0.2⟩ : (fun W => W.cell? ⟨w6.heap.size, 0, none⟩ = some (.slice buy0 nuy0 cuy0) ∧ W.cell? ⟨w.heap.size, 0, none⟩ = some (.slice bu0 nu0 cu0)) w14)))
  replace z13 : Below w12.heap.size w12 w13 := z13
  clear u0 y0' hS0 hT0
  have t13 := z13.size
  have hb13 := on hb12 z13
  replace W0 := W0.below z13 (by omega)
  replace y0 := y0.below z13 (by omega)
  replace y1 := y1.below z13 (by omega)
  replace G0 := G0.below z13 (by omega)
  replace bp0_0 := (z13.cell (p := ⟨w.heap.size, 0, none⟩) (by simp only []; omega)).trans bp0_0
  replace bp1_0 := (z13.cell (p := ⟨w.heap.size + 1, 0, none⟩) (by simp only []; omega)).trans bp1_0
  replace bp1_1 := (z13.cell (p := ⟨w.heap.size + 1, 1, none⟩) (by simp only []; omega)).trans bp1_1
  replace bW0_0 := (z13.cell (p := ⟨BW0, 0, none⟩) (by simp only []; omega)).trans bW0_0
  replace bW0_1 := (z13.cell (p := ⟨BW0, 1, none⟩) (by simp only []; omega)).trans bW0_1
  replace by0_0 := (z13.cell (p := ⟨w6.heap.size, 0, none⟩) (by simp only []; omega)).trans by0_0
  replace by1_0 := (z13.cell (p := ⟨w8.heap.size, 0, none⟩) (by simp only []; omega)).trans by1_0
  replace by1_1 := (z13.cell (p := ⟨w8.heap.size, 1, none⟩) (by simp only []; omega)).trans by1_1
  replace bG0_0 := (z13.cell (p := ⟨w10.heap.size, 0, none⟩) (by simp only []; omega)).trans bG0_0
  replace bG0_1 := (z13.cell (p := ⟨w10.heap.size, 1, none⟩) (by simp only []; omega)).trans bG0_1
  have t14 := z14.size
  have hb14 := on hb13 z14
  replace W0 := W0.below z14 (by omega)
  replace y0 := y0.below z14 (by omega)
  replace y1 := y1.below z14 (by omega)
  replace G0 := G0.below z14 (by omega)
  replace bp0_0 := (z14.cell (p := ⟨w.heap.size, 0, none⟩) (by simp only []; omega)).trans bp0_0
  replace bp1_0 := (z14.cell (p := ⟨w.heap.size + 1, 0, none⟩) (by simp only []; omega)).trans bp1_0
  replace bp1_1 := (z14.cell (p := ⟨w.heap.size + 1, 1, none⟩) (by simp only []; omega)).trans bp1_1
  replace bW0_0 := (z14.cell (p := ⟨BW0, 0, none⟩) (by simp only []; omega)).trans bW0_0
  replace bW0_1 := (z14.cell (p := ⟨BW0, 1, none⟩) (by simp only []; omega)).trans bW0_1
  replace by0_0 := (z14.cell (p := ⟨w6.heap.size, 0, none⟩) (by simp only []; omega)).trans by0_0
  replace by1_0 := (z14.cell (p := ⟨w8.heap.size, 0, none⟩) (by simp only []; omega)).trans by1_0
  replace by1_1 := (z14.cell (p := ⟨w8.heap.size, 1, none⟩) (by simp only []; omega)).trans by1_1
  replace bG0_0 := (z14.cell (p := ⟨w10.heap.size, 0, none⟩) (by simp only []; omega)).trans bG0_0
  replace bG0_1 := (z14.cell (p := ⟨w10.heap.size, 1, none⟩) (by simp only []; omega)).trans bG0_1
  go_wp2_with fail
  go_region_held3 (fun W => W.cell? ⟨w8.heap.size, 0, none⟩ = some (.int .i64 x1.1) ∧ W.cell? ⟨w8.heap.size, 1, none⟩ = some (.slice buy1 nuy1 cuy1) ∧ W.cell? ⟨w.heap.size + 1, 0, none⟩ = some (.int .i64 x1.1) ∧ W.cell? ⟨w.heap.size + 1, 1, none⟩ = some (.slice bu1 nu1 cu1)) (first | exact ⟨by1_0, by1_1, bp1_0, bp1_1⟩ | assumption) (first | (go_at_call 11; refine (to_Q _ x1 _ (rQ.mono h1 hb14.drew) (by omega)).mono ?_; rintro e w15 ⟨du1, rfl, u1, z15⟩; replace z15 : Below w14.heap.size w14 w15 := (Below.refl _ _).drew.trans z15; have hS1 := (⟨(z15.cell (p := ⟨w8.heap.size, 0, none⟩) (by simp only []; omega)).trans by1_0, (z15.cell (p := ⟨w8.heap.size, 1, none⟩) (by simp only []; omega)).trans by1_1, (z15.cell (p := ⟨w.heap.size + 1, 0, none⟩) (by simp only []; omega)).trans bp1_0, (z15.cell (p := ⟨w.heap.size + 1, 1, none⟩) (by simp only []; omega)).trans bp1_1⟩ : (fun W => W.cell? ⟨w8.heap.size, 0, none⟩ = some (.int .i64 x1.1) ∧ W.cell? ⟨w8.heap.size, 1, none⟩ = some (.slice buy1 nuy1 cuy1) ∧ W.cell? ⟨w.heap.size + 1, 0, none⟩ = some (.int .i64 x1.1) ∧ W.cell? ⟨w.heap.size + 1, 1, none⟩ = some (.slice bu1 nu1 cu1)) w15); obtain ⟨buu1, nuu1, cuu1, rfl⟩ := oQ_form u1; have y1' := y1.below z15 (by omega)) | (go_at_call 15; refine (eq_Q _ _ x1 x1 _ (y1'.rd reads_Q) (u1.rd reads_Q)).mono ?_; rintro e w16 ⟨rfl, z16⟩; have s15 := z15.size; have hT1 := (⟨(z16.cell (p := ⟨w8.heap.size, 0, none⟩) (by simp only []; omega)).trans hS1.1, (z16.cell (p := ⟨w8.heap.size, 1, none⟩) (by simp only []; omega)).trans hS1.2.1, (z16.cell (p := ⟨w.heap.size + 1, 0, none⟩) (by simp only []; omega)).trans hS1.2.2.1, (z16.cell (p := ⟨w.heap.size + 1, 1, none⟩) (by simp only []; omega)).trans hS1.2.2.2⟩ : (fun W => W.cell? ⟨w8.heap.size, 0, none⟩ = some (.int .i64 x1.1) ∧ W.cell? ⟨w8.heap.size, 1, none⟩ = some (.slice buy1 nuy1 cuy1) ∧ W.cell? ⟨w.heap.size + 1, 0, none⟩ = some (.int .i64 x1.1) ∧ W.cell? ⟨w.heap.size + 1, 1, none⟩ = some (.slice bu1 nu1 cu1)) w16)))
  replace z15 : Below w14.heap.size w14 w15 := z15
  clear u1 y1' hS1 hT1
  have t15 := z15.size
  have hb15 := on hb14 z15
  replace W0 := W0.below z15 (by omega)
  replace y0 := y0.below z15 (by omega)
  replace y1 := y1.below z15 (by omega)
  replace G0 := G0.below z15 (by omega)
  replace bp0_0 := (z15.cell (p := ⟨w.heap.size, 0, none⟩) (by simp only []; omega)).trans bp0_0
  replace bp1_0 := (z15.cell (p := ⟨w.heap.size + 1, 0, none⟩) (by simp only []; omega)).trans bp1_0
  replace bp1_1 := (z15.cell (p := ⟨w.heap.size + 1, 1, none⟩) (by simp only []; omega)).trans bp1_1
  replace bW0_0 := (z15.cell (p := ⟨BW0, 0, none⟩) (by simp only []; omega)).trans bW0_0
  replace bW0_1 := (z15.cell (p := ⟨BW0, 1, none⟩) (by simp only []; omega)).trans bW0_1
  replace by0_0 := (z15.cell (p := ⟨w6.heap.size, 0, none⟩) (by simp only []; omega)).trans by0_0
  replace by1_0 := (z15.cell (p := ⟨w8.heap.size, 0, none⟩) (by simp only []; omega)).trans by1_0
  replace by1_1 := (z15.cell (p := ⟨w8.heap.size, 1, none⟩) (by simp only []; omega)).trans by1_1
  replace bG0_0 := (z15.cell (p := ⟨w10.heap.size, 0, none⟩) (by simp only []; omega)).trans bG0_0
  replace bG0_1 := (z15.cell (p := ⟨w10.heap.size, 1, none⟩) (by simp only []; omega)).trans bG0_1
  have t16 := z16.size
  have hb16 := on hb15 z16
  replace W0 := W0.below z16 (by omega)
  replace y0 := y0.below z16 (by omega)
  replace y1 := y1.below z16 (by omega)
  replace G0 := G0.below z16 (by omega)
  replace bp0_0 := (z16.cell (p := ⟨w.heap.size, 0, none⟩) (by simp only []; omega)).trans bp0_0
  replace bp1_0 := (z16.cell (p := ⟨w.heap.size + 1, 0, none⟩) (by simp only []; omega)).trans bp1_0
  replace bp1_1 := (z16.cell (p := ⟨w.heap.size + 1, 1, none⟩) (by simp only []; omega)).trans bp1_1
  replace bW0_0 := (z16.cell (p := ⟨BW0, 0, none⟩) (by simp only []; omega)).trans bW0_0
  replace bW0_1 := (z16.cell (p := ⟨BW0, 1, none⟩) (by simp only []; omega)).trans bW0_1
  replace by0_0 := (z16.cell (p := ⟨w6.heap.size, 0, none⟩) (by simp only []; omega)).trans by0_0
  replace by1_0 := (z16.cell (p := ⟨w8.heap.size, 0, none⟩) (by simp only []; omega)).trans by1_0
  replace by1_1 := (z16.cell (p := ⟨w8.heap.size, 1, none⟩) (by simp only []; omega)).trans by1_1
  replace bG0_0 := (z16.cell (p := ⟨w10.heap.size, 0, none⟩) (by simp only []; omega)).trans bG0_0
  replace bG0_1 := (z16.cell (p := ⟨w10.heap.size, 1, none⟩) (by simp only []; omega)).trans bG0_1
  have hct0 := cnt_le_Db x0
  have hct1 := cnt_le_Q x1
  go_wp2_with fail
  refine (mark_Db _ x0 (1) w5.heap.size w6.heap.size _ y0 (by omega) (by omega) (by omega) (by omega)).mono ?_
  rintro e w17 ⟨rfl, y0m, z17⟩
  have s17 := z17.size
  have hb17 := hb16.trans ((z17.below (by omega)).mono (by omega))
  replace W0 := W0.turn z17 (by omega)
  replace y1 := y1.turn z17 (by omega)
  replace G0 := G0.turn z17 (by omega)
  replace bp0_0 := (z17.cell (p := ⟨w.heap.size, 0, none⟩) (by simp only []; omega) (by simp only []; omega)).trans bp0_0
  replace bp1_0 := (z17.cell (p := ⟨w.heap.size + 1, 0, none⟩) (by simp only []; omega) (by simp only []; omega)).trans bp1_0
  replace bp1_1 := (z17.cell (p := ⟨w.heap.size + 1, 1, none⟩) (by simp only []; omega) (by simp only []; omega)).trans bp1_1
  replace bW0_0 := (z17.cell (p := ⟨BW0, 0, none⟩) (by simp only []; omega) (by simp only []; omega)).trans bW0_0
  replace bW0_1 := (z17.cell (p := ⟨BW0, 1, none⟩) (by simp only []; omega) (by simp only []; omega)).trans bW0_1
  replace by0_0 := (z17.cell (p := ⟨w6.heap.size, 0, none⟩) (by simp only []; omega) (by simp only []; omega)).trans by0_0
  replace by1_0 := (z17.cell (p := ⟨w8.heap.size, 0, none⟩) (by simp only []; omega) (by simp only []; omega)).trans by1_0
  replace by1_1 := (z17.cell (p := ⟨w8.heap.size, 1, none⟩) (by simp only []; omega) (by simp only []; omega)).trans by1_1
  replace bG0_0 := (z17.cell (p := ⟨w10.heap.size, 0, none⟩) (by simp only []; omega) (by simp only []; omega)).trans bG0_0
  replace bG0_1 := (z17.cell (p := ⟨w10.heap.size, 1, none⟩) (by simp only []; omega) (by simp only []; omega)).trans bG0_1
  clear y0
  clear y0m
  go_wp2_with fail
  refine (mark_Q _ x1 (1 + (cnt_Db x0 : Int)) w7.heap.size w8.heap.size _ y1 (by omega) (by omega) (by omega) (by omega)).mono ?_
  rintro e w18 ⟨rfl, y1m, z18⟩
  have s18 := z18.size
  have hb18 := hb17.trans ((z18.below (by omega)).mono (by omega))
  replace W0 := W0.turn z18 (by omega)
  replace G0 := G0.turn z18 (by omega)
  replace bp0_0 := (z18.cell (p := ⟨w.heap.size, 0, none⟩) (by simp only []; omega) (by simp only []; omega)).trans bp0_0
  replace bp1_0 := (z18.cell (p := ⟨w.heap.size + 1, 0, none⟩) (by simp only []; omega) (by simp only []; omega)).trans bp1_0
  replace bp1_1 := (z18.cell (p := ⟨w.heap.size + 1, 1, none⟩) (by simp only []; omega) (by simp only []; omega)).trans bp1_1
  replace bW0_0 := (z18.cell (p := ⟨BW0, 0, none⟩) (by simp only []; omega) (by simp only []; omega)).trans bW0_0
  replace bW0_1 := (z18.cell (p := ⟨BW0, 1, none⟩) (by simp only []; omega) (by simp only []; omega)).trans bW0_1
  replace by0_0 := (z18.cell (p := ⟨w6.heap.size, 0, none⟩) (by simp only []; omega) (by simp only []; omega)).trans by0_0
  replace by1_0 := (z18.cell (p := ⟨w8.heap.size, 0, none⟩) (by simp only []; omega) (by simp only []; omega)).trans by1_0
  replace by1_1 := (z18.cell (p := ⟨w8.heap.size, 1, none⟩) (by simp only []; omega) (by simp only []; omega)).trans by1_1
  replace bG0_0 := (z18.cell (p := ⟨w10.heap.size, 0, none⟩) (by simp only []; omega) (by simp only []; omega)).trans bG0_0
  replace bG0_1 := (z18.cell (p := ⟨w10.heap.size, 1, none⟩) (by simp only []; omega) (by simp only []; omega)).trans bG0_1
  clear y1
  clear y1m
  go_wp2_with fail
  refine (eq_An _ _ _ _ _ (G0.rd reads_An) (W0.rd reads_An)).mono ?_
  rintro e w19 ⟨rfl, z19⟩
  have s19 := z19.size
  have hb19 := on hb18 z19
  replace W0 := W0.below z19 (by omega)
  replace G0 := G0.below z19 (by omega)
  replace bp0_0 := (z19.cell (p := ⟨w.heap.size, 0, none⟩) (by simp only []; omega)).trans bp0_0
  replace bp1_0 := (z19.cell (p := ⟨w.heap.size + 1, 0, none⟩) (by simp only []; omega)).trans bp1_0
  replace bp1_1 := (z19.cell (p := ⟨w.heap.size + 1, 1, none⟩) (by simp only []; omega)).trans bp1_1
  replace bW0_0 := (z19.cell (p := ⟨BW0, 0, none⟩) (by simp only []; omega)).trans bW0_0
  replace bW0_1 := (z19.cell (p := ⟨BW0, 1, none⟩) (by simp only []; omega)).trans bW0_1
  replace by0_0 := (z19.cell (p := ⟨w6.heap.size, 0, none⟩) (by simp only []; omega)).trans by0_0
  replace by1_0 := (z19.cell (p := ⟨w8.heap.size, 0, none⟩) (by simp only []; omega)).trans by1_0
  replace by1_1 := (z19.cell (p := ⟨w8.heap.size, 1, none⟩) (by simp only []; omega)).trans by1_1
  replace bG0_0 := (z19.cell (p := ⟨w10.heap.size, 0, none⟩) (by simp only []; omega)).trans bG0_0
  replace bG0_1 := (z19.cell (p := ⟨w10.heap.size, 1, none⟩) (by simp only []; omega)).trans bG0_1
  have hrb0 := evalM_bulk x0 x1 (fullMask x1)
  go_wp2_with fail
  refine (mark_An _ _ (1) w9.heap.size w10.heap.size _ G0 (by omega) (by omega) (by omega) (by omega)).mono ?_
  rintro e w20 ⟨rfl, M0, z20⟩
  have s20 := z20.size
  have hb20 := hb19.trans ((z20.below (by omega)).mono (by omega))
  replace W0 := W0.turn z20 (by omega)
  replace bp0_0 := (z20.cell (p := ⟨w.heap.size, 0, none⟩) (by simp only []; omega) (by simp only []; omega)).trans bp0_0
  replace bp1_0 := (z20.cell (p := ⟨w.heap.size + 1, 0, none⟩) (by simp only []; omega) (by simp only []; omega)).trans bp1_0
  replace bp1_1 := (z20.cell (p := ⟨w.heap.size + 1, 1, none⟩) (by simp only []; omega) (by simp only []; omega)).trans bp1_1
  replace bW0_0 := (z20.cell (p := ⟨BW0, 0, none⟩) (by simp only []; omega) (by simp only []; omega)).trans bW0_0
  replace bW0_1 := (z20.cell (p := ⟨BW0, 1, none⟩) (by simp only []; omega) (by simp only []; omega)).trans bW0_1
  replace by0_0 := (z20.cell (p := ⟨w6.heap.size, 0, none⟩) (by simp only []; omega) (by simp only []; omega)).trans by0_0
  replace by1_0 := (z20.cell (p := ⟨w8.heap.size, 0, none⟩) (by simp only []; omega) (by simp only []; omega)).trans by1_0
  replace by1_1 := (z20.cell (p := ⟨w8.heap.size, 1, none⟩) (by simp only []; omega) (by simp only []; omega)).trans by1_1
  replace bG0_0 := (z20.cell (p := ⟨w10.heap.size, 0, none⟩) (by simp only []; omega) (by simp only []; omega)).trans bG0_0
  replace bG0_1 := (z20.cell (p := ⟨w10.heap.size, 1, none⟩) (by simp only []; omega) (by simp only []; omega)).trans bG0_1
  clear G0
  go_wp2_with fail
  refine (held_An _ _ (1) _ (M0.rd reads_An) (by omega) (by omega) (by omega)).mono ?_
  rintro e w21 ⟨rfl, z21⟩
  have s21 := z21.size
  have hb21 := on hb20 z21
  replace W0 := W0.below z21 (by omega)
  replace M0 := M0.below z21 (by omega)
  replace bp0_0 := (z21.cell (p := ⟨w.heap.size, 0, none⟩) (by simp only []; omega)).trans bp0_0
  replace bp1_0 := (z21.cell (p := ⟨w.heap.size + 1, 0, none⟩) (by simp only []; omega)).trans bp1_0
  replace bp1_1 := (z21.cell (p := ⟨w.heap.size + 1, 1, none⟩) (by simp only []; omega)).trans bp1_1
  replace bW0_0 := (z21.cell (p := ⟨BW0, 0, none⟩) (by simp only []; omega)).trans bW0_0
  replace bW0_1 := (z21.cell (p := ⟨BW0, 1, none⟩) (by simp only []; omega)).trans bW0_1
  replace by0_0 := (z21.cell (p := ⟨w6.heap.size, 0, none⟩) (by simp only []; omega)).trans by0_0
  replace by1_0 := (z21.cell (p := ⟨w8.heap.size, 0, none⟩) (by simp only []; omega)).trans by1_0
  replace by1_1 := (z21.cell (p := ⟨w8.heap.size, 1, none⟩) (by simp only []; omega)).trans by1_1
  replace bG0_0 := (z21.cell (p := ⟨w10.heap.size, 0, none⟩) (by simp only []; omega)).trans bG0_0
  replace bG0_1 := (z21.cell (p := ⟨w10.heap.size, 1, none⟩) (by simp only []; omega)).trans bG0_1
  go_wp2_with fail
  apply share4 (fun (BH0 : Nat) (w22 : World) (bup0 : Option Addr) (nup0 : Nat) (cup0 : Nat) (bup1 : Option Addr) (nup1 : Nat) (cup1 : Nat) (buH0 : Option Addr) (nuH0 : Nat) (cuH0 : Nat) (buH0b : Option Addr) (nuH0b : Nat) (cuH0b : Nat) => Below w21.heap.size w21 w22 ∧ w21.heap.size ≤ BH0 ∧ BH0 < w22.heap.size ∧ (w22.cell? ⟨BH0, 0, none⟩ = some (.slice buH0 nuH0 cuH0) ∧ w22.cell? ⟨BH0, 1, none⟩ = some (.slice buH0b nuH0b cuH0b)) ∧ ∃ lo hi, w21.heap.size ≤ lo ∧ lo ≤ hi ∧ hi ≤ w22.heap.size ∧ (BH0 < lo ∨ hi ≤ BH0) ∧ Own oAn lo hi w22 [.slice buH0 nuH0 cuH0, .slice buH0b nuH0b cuH0b] (evalM x0 x1 (fullMask x1)))
  case br =>
    intro key
    refine wp_region_noPanic ?_
    refine wp_region_held_drew (S := (fun W => W.cell? ⟨w.heap.size, 0, none⟩ = some (.slice bu0 nu0 cu0) ∧ W.cell? ⟨w.heap.size + 1, 0, none⟩ = some (.int .i64 x1.1) ∧ W.cell? ⟨w.heap.size + 1, 1, none⟩ = some (.slice bu1 nu1 cu1))) (by kernel_rfl) ?hS (fun hHeld => ?_)
    case hS => exact ⟨bp0_0, bp1_0, bp1_1⟩
    refine wpAnyH_take (i := 0) (v := ?v0_p1) rfl (by kernel_rfl) (by kernel_rfl) (by kernel_rfl) (fun _ _ _ h => h) (Or.inl ⟨by rfl, ?hy0_p1⟩) (by assumption) ?rest0_p1
    case hy0_p1 => intro w hSw; (try dsimp only at hSw); go_simp; (try with_reducible rfl)
    try simp only [Act.put, List.getElem_toArray, List.getElem_cons_succ, List.getElem_cons_zero, List.setIfInBounds_toArray, List.set_cons_zero, List.set_cons_succ]
    refine wpAnyH_take (i := 2) (v := ?v2_p2) rfl (by kernel_rfl) (by kernel_rfl) (by kernel_rfl) (fun _ _ _ h => h) (Or.inl ⟨by rfl, ?hy2_p2⟩) (by assumption) ?rest2_p2
    case hy2_p2 => intro w hSw; (try dsimp only at hSw); go_simp; (try with_reducible rfl)
    try simp only [Act.put, List.getElem_toArray, List.getElem_cons_succ, List.getElem_cons_zero, List.setIfInBounds_toArray, List.set_cons_zero, List.set_cons_succ]
    refine wpAnyH_ready (rs := [1, 8]) (by kernel_rfl) (by simp) ?_
    refine AllReadyH.cons rfl (fun K hK => ?_) (AllReadyH.cons rfl (fun K hK => ?_) AllReadyH.nil)
    · skip
      go_simp
      refine (to_Db _ x0 _ (rDb.mono h0 (hb21.drew)) (by omega)).mono ?_
      rintro e v3 ⟨cp0, rfl, p0, y3⟩
      obtain ⟨bup0, nup0, cup0, rfl⟩ := oDb_form p0
      replace y3 : Below w21.heap.size w21 v3 := on (Below.refl _ _).drew y3
      have y3s := y3.size
      have gv3 := on hb21 y3
      have Sv3 := (⟨(y3.cell (p := ⟨w.heap.size, 0, none⟩) (by simp only []; omega)).trans bp0_0, (y3.cell (p := ⟨w.heap.size + 1, 0, none⟩) (by simp only []; omega)).trans bp1_0, (y3.cell (p := ⟨w.heap.size + 1, 1, none⟩) (by simp only []; omega)).trans bp1_1⟩ : (fun W => W.cell? ⟨w.heap.size, 0, none⟩ = some (.slice bu0 nu0 cu0) ∧ W.cell? ⟨w.heap.size + 1, 0, none⟩ = some (.int .i64 x1.1) ∧ W.cell? ⟨w.heap.size + 1, 1, none⟩ = some (.slice bu1 nu1 cu1)) v3)
      refine hK.out _ _ ?_ (fun hHeld => ?_)
      · exact Sv3
      clear hK K
      try simp only [Act.put, List.setIfInBounds_toArray, List.set_cons_zero, List.set_cons_succ]
      refine wpAnyH_ready (rs := [3, 8]) (by kernel_rfl) (by simp) ?_
      refine AllReadyH.cons rfl (fun K hK => ?_) (AllReadyH.cons rfl (fun K hK => ?_) AllReadyH.nil)
      · skip
        go_simp
        refine (to_Q _ x1 _ (rQ.mono h1 (gv3)) (by omega)).mono ?_
        rintro e v4 ⟨cp1, rfl, p1, y4⟩
        obtain ⟨bup1, nup1, cup1, rfl⟩ := oQ_form p1
        have y4s := y4.size
        have gv4 := on gv3 y4
        have Sv4 := (⟨(y4.cell (p := ⟨w.heap.size, 0, none⟩) (by simp only []; omega)).trans Sv3.1, (y4.cell (p := ⟨w.heap.size + 1, 0, none⟩) (by simp only []; omega)).trans Sv3.2.1, (y4.cell (p := ⟨w.heap.size + 1, 1, none⟩) (by simp only []; omega)).trans Sv3.2.2⟩ : (fun W => W.cell? ⟨w.heap.size, 0, none⟩ = some (.slice bu0 nu0 cu0) ∧ W.cell? ⟨w.heap.size + 1, 0, none⟩ = some (.int .i64 x1.1) ∧ W.cell? ⟨w.heap.size + 1, 1, none⟩ = some (.slice bu1 nu1 cu1)) v4)
        have cv4 := on y3 y4
        replace p0 := p0.below y4 (by omega)
        refine hK.out _ _ ?_ (fun hHeld => ?_)
        · exact Sv4
        clear hK K
        try simp only [Act.put, List.setIfInBounds_toArray, List.set_cons_zero, List.set_cons_succ]
        refine wpAnyH_ready (rs := [4, 8]) (by kernel_rfl) (by simp) ?_
        refine AllReadyH.cons rfl (fun K hK => ?_) (AllReadyH.cons rfl (fun K hK => ?_) AllReadyH.nil)
        · skip
          go_simp
          refine (evalQ_impl _ _ x0 x1 _ (p0.rd reads_Db) (p1.rd reads_Q)).mono ?_
          rintro e v5 ⟨cH0, rfl, H0, y5⟩
          obtain ⟨buH0, nuH0, cuH0, buH0b, nuH0b, cuH0b, rfl⟩ := oAn_form H0
          have y5s := y5.size
          have gv5 := on gv4 y5
          have Sv5 := (⟨(y5.cell (p := ⟨w.heap.size, 0, none⟩) (by simp only []; omega)).trans Sv4.1, (y5.cell (p := ⟨w.heap.size + 1, 0, none⟩) (by simp only []; omega)).trans Sv4.2.1, (y5.cell (p := ⟨w.heap.size + 1, 1, none⟩) (by simp only []; omega)).trans Sv4.2.2⟩ : (fun W => W.cell? ⟨w.heap.size, 0, none⟩ = some (.slice bu0 nu0 cu0) ∧ W.cell? ⟨w.heap.size + 1, 0, none⟩ = some (.int .i64 x1.1) ∧ W.cell? ⟨w.heap.size + 1, 1, none⟩ = some (.slice bu1 nu1 cu1)) v5)
          have cv5 := on cv4 y5
          refine hK.out _ _ ?_ (fun hHeld => ?_)
          · exact Sv5
          clear hK K
          try simp only [Act.put, List.setIfInBounds_toArray, List.set_cons_zero, List.set_cons_succ]
          refine wpAnyH_take (i := 5) (v := ?v5_p6) rfl (by kernel_rfl) (by kernel_rfl) (by kernel_rfl) (fun _ _ _ h => h) (Or.inl ⟨by rfl, ?hy5_p6⟩) (by assumption) ?rest5_p6
          case hy5_p6 => intro w hSw; (try dsimp only at hSw); go_simp; (try with_reducible rfl)
          try simp only [Act.put, List.getElem_toArray, List.getElem_cons_succ, List.getElem_cons_zero, List.setIfInBounds_toArray, List.set_cons_zero, List.set_cons_succ]
          refine wpAnyH_take (i := 6) (v := ?v6_p7) rfl (by kernel_rfl) (by kernel_rfl) (by kernel_rfl) (fun _ _ _ h => h) (Or.inl ⟨by rfl, ?hy6_p7⟩) (by assumption) ?rest6_p7
          case hy6_p7 => intro w hSw; (try dsimp only at hSw); go_simp; (try with_reducible rfl)
          try simp only [Act.put, List.getElem_toArray, List.getElem_cons_succ, List.getElem_cons_zero, List.setIfInBounds_toArray, List.set_cons_zero, List.set_cons_succ]
          refine wpAnyH_take (i := 7) (v := ?v7_p8) rfl (by kernel_rfl) (by kernel_rfl) (by kernel_rfl) (fun _ _ _ h => h) (Or.inl ⟨by rfl, ?hy7_p8⟩) (by assumption) ?rest7_p8
          case hy7_p8 => intro w hSw; (try dsimp only at hSw); go_simp; (try with_reducible rfl)
          try simp only [Act.put, List.getElem_toArray, List.getElem_cons_succ, List.getElem_cons_zero, List.setIfInBounds_toArray, List.set_cons_zero, List.set_cons_succ]
          refine wpAnyH_ready (rs := [8]) (by kernel_rfl) (by simp) ?_
          refine AllReadyH.cons rfl (fun K hK => ?_) AllReadyH.nil
          go_simp
          obtain ⟨v9, hwv9⟩ : ∃ W, W = v5.alloc (.cells #[.slice none 0 0, .slice none 0 0] 49) := ⟨_, rfl⟩
          have n_0 : v9.cell? ⟨v5.heap.size, 0, none⟩ = some (.slice none 0 0) := by rw [hwv9]; exact box_cell (Below.refl _ _) rfl
          have n_1 : v9.cell? ⟨v5.heap.size, 1, none⟩ = some (.slice none 0 0) := by rw [hwv9]; exact box_cell (Below.refl _ _) rfl
          have n_f0 : v9.frozen? ⟨v5.heap.size, 0, none⟩ = false := by rw [hwv9]; exact box_frozen (Below.refl _ _)
          have n_f1 : v9.frozen? ⟨v5.heap.size, 1, none⟩ = false := by rw [hwv9]; exact box_frozen (Below.refl _ _)
          have y9 : Below v5.heap.size v5 v9 := by rw [hwv9]; exact ((Below.refl _ _).alloc (Nat.le_refl _) _)
          have y9s : v5.heap.size < v9.heap.size := by rw [hwv9]; show _ < (v5.alloc _).heap.size; simp
          have gv9 := on gv5 y9
          have Sv9 := (⟨(y9.cell (p := ⟨w.heap.size, 0, none⟩) (by simp only []; omega)).trans Sv5.1, (y9.cell (p := ⟨w.heap.size + 1, 0, none⟩) (by simp only []; omega)).trans Sv5.2.1, (y9.cell (p := ⟨w.heap.size + 1, 1, none⟩) (by simp only []; omega)).trans Sv5.2.2⟩ : (fun W => W.cell? ⟨w.heap.size, 0, none⟩ = some (.slice bu0 nu0 cu0) ∧ W.cell? ⟨w.heap.size + 1, 0, none⟩ = some (.int .i64 x1.1) ∧ W.cell? ⟨w.heap.size + 1, 1, none⟩ = some (.slice bu1 nu1 cu1)) v9)
          have cv9 := on cv5 y9
          replace H0 := H0.below y9 (by omega)
          rw [← hwv9]
          clear hwv9
          refine hK.out _ _ ?_ (fun hHeld => ?_)
          · exact Sv9
          clear hK K
          try simp only [Act.put, List.setIfInBounds_toArray, List.set_cons_zero, List.set_cons_succ]
          refine wpAnyH_ready (rs := [9]) (by kernel_rfl) (by simp) ?_
          refine AllReadyH.cons rfl (fun K hK => ?_) AllReadyH.nil
          go_simp
          refine hK.out _ _ ?_ (fun hHeld => ?_)
          · exact ⟨cell_set (cell_set Sv9.1 (by simp only []; omega)) (by simp only []; omega), cell_set (cell_set Sv9.2.1 (by simp only []; omega)) (by simp only []; omega), cell_set (cell_set Sv9.2.2 (by simp only []; omega)) (by simp only []; omega)⟩
          clear hK K
          try simp only [Act.put, List.setIfInBounds_toArray, List.set_cons_zero, List.set_cons_succ]
          refine wpAnyH_take (i := 10) (v := ?v10_p10) rfl (by kernel_rfl) (by kernel_rfl) (by kernel_rfl) (fun _ _ _ h => h) (Or.inl ⟨by rfl, ?hy10_p10⟩) (by assumption) ?rest10_p10
          case hy10_p10 => intro w hSw; (try dsimp only at hSw); go_simp; (try with_reducible rfl)
          try simp only [Act.put, List.getElem_toArray, List.getElem_cons_succ, List.getElem_cons_zero, List.setIfInBounds_toArray, List.set_cons_zero, List.set_cons_succ]
          refine wpAnyH_done (by kernel_rfl) ?_ _
          refine NoPanic.normal ?_
          obtain ⟨Wf, hWf⟩ : ∃ W, W = (v9.setCell ⟨v5.heap.size, 0, none⟩ (.slice buH0 nuH0 cuH0)).setCell ⟨v5.heap.size, 1, none⟩ (.slice buH0b nuH0b cuH0b) := ⟨_, rfl⟩
          rw [← hWf]
          have f0 : Below w21.heap.size w21 Wf := by rw [hWf]; exact (cv9.setCell (by simp only []; omega) _).setCell (by simp only []; omega) _
          have f1 : v9.heap.size = Wf.heap.size := by rw [hWf]; simp [World.setCell]
          have f2 : Wf.cell? ⟨v5.heap.size, 0, none⟩ = some (.slice buH0 nuH0 cuH0) := by rw [hWf]; simp [go_sem, n_0, n_1]
          have f3 : Wf.cell? ⟨v5.heap.size, 1, none⟩ = some (.slice buH0b nuH0b cuH0b) := by rw [hWf]; simp [go_sem, n_0, n_1]
          have f4 : Own oAn v4.heap.size v5.heap.size Wf [.slice buH0 nuH0 cuH0, .slice buH0b nuH0b cuH0b] (evalM x0 x1 (fullMask x1)) := by rw [hWf]; exact Own.setOff (Own.setOff H0 rfl (by simp only []; omega)) rfl (by simp only []; omega)
          obtain ⟨BB, hBB⟩ : ∃ B, B = v5.heap.size := ⟨_, rfl⟩
          rw [← hBB] at f2 f3 ⊢
          have f5 : w21.heap.size ≤ BB ∧ BB < Wf.heap.size := by omega
          have f6 : w21.heap.size ≤ v4.heap.size ∧ v4.heap.size ≤ v5.heap.size ∧ v5.heap.size ≤ Wf.heap.size ∧ (BB < v4.heap.size ∨ v5.heap.size ≤ BB) := by omega
          have fin : ∃ lo hi, w21.heap.size ≤ lo ∧ lo ≤ hi ∧ hi ≤ Wf.heap.size ∧ (BB < lo ∨ hi ≤ BB) ∧ Own oAn lo hi Wf [.slice buH0 nuH0 cuH0, .slice buH0b nuH0b cuH0b] (evalM x0 x1 (fullMask x1)) := ⟨_, _, f6.1, f6.2.1, f6.2.2.1, f6.2.2.2, f4⟩
          clear f4 f6 hWf f1 hBB
          exact key BB Wf bup0 nup0 cup0 bup1 nup1 cup1 buH0 nuH0 cuH0 buH0b nuH0b cuH0b ⟨f0, f5.1, f5.2, ⟨f2, f3⟩, fin⟩
        · skip
          go_simp
          obtain ⟨v11, hwv11⟩ : ∃ W, W = v4.alloc (.cells #[.slice none 0 0, .slice none 0 0] 49) := ⟨_, rfl⟩
          have n_0 : v11.cell? ⟨v4.heap.size, 0, none⟩ = some (.slice none 0 0) := by rw [hwv11]; exact box_cell (Below.refl _ _) rfl
          have n_1 : v11.cell? ⟨v4.heap.size, 1, none⟩ = some (.slice none 0 0) := by rw [hwv11]; exact box_cell (Below.refl _ _) rfl
          have n_f0 : v11.frozen? ⟨v4.heap.size, 0, none⟩ = false := by rw [hwv11]; exact box_frozen (Below.refl _ _)
          have n_f1 : v11.frozen? ⟨v4.heap.size, 1, none⟩ = false := by rw [hwv11]; exact box_frozen (Below.refl _ _)
          have y11 : Below v4.heap.size v4 v11 := by rw [hwv11]; exact ((Below.refl _ _).alloc (Nat.le_refl _) _)
          have y11s : v4.heap.size < v11.heap.size := by rw [hwv11]; show _ < (v4.alloc _).heap.size; simp
          have gv11 := on gv4 y11
          have Sv11 := (⟨(y11.cell (p := ⟨w.heap.size, 0, none⟩) (by simp only []; omega)).trans Sv4.1, (y11.cell (p := ⟨w.heap.size + 1, 0, none⟩) (by simp only []; omega)).trans Sv4.2.1, (y11.cell (p := ⟨w.heap.size + 1, 1, none⟩) (by simp only []; omega)).trans Sv4.2.2⟩ : (fun W => W.cell? ⟨w.heap.size, 0, none⟩ = some (.slice bu0 nu0 cu0) ∧ W.cell? ⟨w.heap.size + 1, 0, none⟩ = some (.int .i64 x1.1) ∧ W.cell? ⟨w.heap.size + 1, 1, none⟩ = some (.slice bu1 nu1 cu1)) v11)
          have cv11 := on cv4 y11
          replace p0 := p0.below y11 (by omega)
          replace p1 := p1.below y11 (by omega)
          rw [← hwv11]
          clear hwv11
          refine hK.out _ _ ?_ (fun hHeld => ?_)
          · exact Sv11
          clear hK K
          try simp only [Act.put, List.setIfInBounds_toArray, List.set_cons_zero, List.set_cons_succ]
          refine wpAnyH_ready (rs := [4]) (by kernel_rfl) (by simp) ?_
          refine AllReadyH.cons rfl (fun K hK => ?_) AllReadyH.nil
          go_simp
          refine (evalQ_impl _ _ x0 x1 _ (p0.rd reads_Db) (p1.rd reads_Q)).mono ?_
          rintro e v12 ⟨cH0, rfl, H0, y12⟩
          obtain ⟨buH0, nuH0, cuH0, buH0b, nuH0b, cuH0b, rfl⟩ := oAn_form H0
          have y12s := y12.size
          have gv12 := on gv11 y12
          have Sv12 := (⟨(y12.cell (p := ⟨w.heap.size, 0, none⟩) (by simp only []; omega)).trans Sv11.1, (y12.cell (p := ⟨w.heap.size + 1, 0, none⟩) (by simp only []; omega)).trans Sv11.2.1, (y12.cell (p := ⟨w.heap.size + 1, 1, none⟩) (by simp only []; omega)).trans Sv11.2.2⟩ : (fun W => W.cell? ⟨w.heap.size, 0, none⟩ = some (.slice bu0 nu0 cu0) ∧ W.cell? ⟨w.heap.size + 1, 0, none⟩ = some (.int .i64 x1.1) ∧ W.cell? ⟨w.heap.size + 1, 1, none⟩ = some (.slice bu1 nu1 cu1)) v12)
          have cv12 := on cv11 y12
          replace n_0 := (y12.cell (p := ⟨v4.heap.size, 0, none⟩) (by simp only []; omega)).trans n_0
          replace n_1 := (y12.cell (p := ⟨v4.heap.size, 1, none⟩) (by simp only []; omega)).trans n_1
          replace n_f0 := (y12.frozen (p := ⟨v4.heap.size, 0, none⟩) (by simp only []; omega)).trans n_f0
          replace n_f1 := (y12.frozen (p := ⟨v4.heap.size, 1, none⟩) (by simp only []; omega)).trans n_f1
          refine hK.out _ _ ?_ (fun hHeld => ?_)
          · exact Sv12
          clear hK K
          try simp only [Act.put, List.setIfInBounds_toArray, List.set_cons_zero, List.set_cons_succ]
          refine wpAnyH_take (i := 5) (v := ?v5_p13) rfl (by kernel_rfl) (by kernel_rfl) (by kernel_rfl) (fun _ _ _ h => h) (Or.inl ⟨by rfl, ?hy5_p13⟩) (by assumption) ?rest5_p13
          case hy5_p13 => intro w hSw; (try dsimp only at hSw); go_simp; (try with_reducible rfl)
          try simp only [Act.put, List.getElem_toArray, List.getElem_cons_succ, List.getElem_cons_zero, List.setIfInBounds_toArray, List.set_cons_zero, List.set_cons_succ]
          refine wpAnyH_take (i := 6) (v := ?v6_p14) rfl (by kernel_rfl) (by kernel_rfl) (by kernel_rfl) (fun _ _ _ h => h) (Or.inl ⟨by rfl, ?hy6_p14⟩) (by assumption) ?rest6_p14
          case hy6_p14 => intro w hSw; (try dsimp only at hSw); go_simp; (try with_reducible rfl)
          try simp only [Act.put, List.getElem_toArray, List.getElem_cons_succ, List.getElem_cons_zero, List.setIfInBounds_toArray, List.set_cons_zero, List.set_cons_succ]
          refine wpAnyH_take (i := 7) (v := ?v7_p15) rfl (by kernel_rfl) (by kernel_rfl) (by kernel_rfl) (fun _ _ _ h => h) (Or.inl ⟨by rfl, ?hy7_p15⟩) (by assumption) ?rest7_p15
          case hy7_p15 => intro w hSw; (try dsimp only at hSw); go_simp; (try with_reducible rfl)
          try simp only [Act.put, List.getElem_toArray, List.getElem_cons_succ, List.getElem_cons_zero, List.setIfInBounds_toArray, List.set_cons_zero, List.set_cons_succ]
          refine wpAnyH_ready (rs := [9]) (by kernel_rfl) (by simp) ?_
          refine AllReadyH.cons rfl (fun K hK => ?_) AllReadyH.nil
          go_simp
          refine hK.out _ _ ?_ (fun hHeld => ?_)
          · exact ⟨cell_set (cell_set Sv12.1 (by simp only []; omega)) (by simp only []; omega), cell_set (cell_set Sv12.2.1 (by simp only []; omega)) (by simp only []; omega), cell_set (cell_set Sv12.2.2 (by simp only []; omega)) (by simp only []; omega)⟩
          clear hK K
          try simp only [Act.put, List.setIfInBounds_toArray, List.set_cons_zero, List.set_cons_succ]
          refine wpAnyH_take (i := 10) (v := ?v10_p16) rfl (by kernel_rfl) (by kernel_rfl) (by kernel_rfl) (fun _ _ _ h => h) (Or.inl ⟨by rfl, ?hy10_p16⟩) (by assumption) ?rest10_p16
          case hy10_p16 => intro w hSw; (try dsimp only at hSw); go_simp; (try with_reducible rfl)
          try simp only [Act.put, List.getElem_toArray, List.getElem_cons_succ, List.getElem_cons_zero, List.setIfInBounds_toArray, List.set_cons_zero, List.set_cons_succ]
          refine wpAnyH_done (by kernel_rfl) ?_ _
          refine NoPanic.normal ?_
          obtain ⟨Wf, hWf⟩ : ∃ W, W = (v12.setCell ⟨v4.heap.size, 0, none⟩ (.slice buH0 nuH0 cuH0)).setCell ⟨v4.heap.size, 1, none⟩ (.slice buH0b nuH0b cuH0b) := ⟨_, rfl⟩
          rw [← hWf]
          have f0 : Below w21.heap.size w21 Wf := by rw [hWf]; exact (cv12.setCell (by simp only []; omega) _).setCell (by simp only []; omega) _
          have f1 : v12.heap.size = Wf.heap.size := by rw [hWf]; simp [World.setCell]
          have f2 : Wf.cell? ⟨v4.heap.size, 0, none⟩ = some (.slice buH0 nuH0 cuH0) := by rw [hWf]; simp [go_sem, n_0, n_1]
          have f3 : Wf.cell? ⟨v4.heap.size, 1, none⟩ = some (.slice buH0b nuH0b cuH0b) := by rw [hWf]; simp [go_sem, n_0, n_1]
          have f4 : Own oAn v11.heap.size v12.heap.size Wf [.slice buH0 nuH0 cuH0, .slice buH0b nuH0b cuH0b] (evalM x0 x1 (fullMask x1)) := by rw [hWf]; exact Own.setOff (Own.setOff H0 rfl (by simp only []; omega)) rfl (by simp only []; omega)
          obtain ⟨BB, hBB⟩ : ∃ B, B = v4.heap.size := ⟨_, rfl⟩
          rw [← hBB] at f2 f3 ⊢
          have f5 : w21.heap.size ≤ BB ∧ BB < Wf.heap.size := by omega
          have f6 : w21.heap.size ≤ v11.heap.size ∧ v11.heap.size ≤ v12.heap.size ∧ v12.heap.size ≤ Wf.heap.size ∧ (BB < v11.heap.size ∨ v12.heap.size ≤ BB) := by omega
          have fin : ∃ lo hi, w21.heap.size ≤ lo ∧ lo ≤ hi ∧ hi ≤ Wf.heap.size ∧ (BB < lo ∨ hi ≤ BB) ∧ Own oAn lo hi Wf [.slice buH0 nuH0 cuH0, .slice buH0b nuH0b cuH0b] (evalM x0 x1 (fullMask x1)) := ⟨_, _, f6.1, f6.2.1, f6.2.2.1, f6.2.2.2, f4⟩
          clear f4 f6 hWf f1 hBB
          exact key BB Wf bup0 nup0 cup0 bup1 nup1 cup1 buH0 nuH0 cuH0 buH0b nuH0b cuH0b ⟨f0, f5.1, f5.2, ⟨f2, f3⟩, fin⟩
      · skip
        go_simp
        obtain ⟨v17, hwv17⟩ : ∃ W, W = v3.alloc (.cells #[.slice none 0 0, .slice none 0 0] 49) := ⟨_, rfl⟩
        have n_0 : v17.cell? ⟨v3.heap.size, 0, none⟩ = some (.slice none 0 0) := by rw [hwv17]; exact box_cell (Below.refl _ _) rfl
        have n_1 : v17.cell? ⟨v3.heap.size, 1, none⟩ = some (.slice none 0 0) := by rw [hwv17]; exact box_cell (Below.refl _ _) rfl
        have n_f0 : v17.frozen? ⟨v3.heap.size, 0, none⟩ = false := by rw [hwv17]; exact box_frozen (Below.refl _ _)
        have n_f1 : v17.frozen? ⟨v3.heap.size, 1, none⟩ = false := by rw [hwv17]; exact box_frozen (Below.refl _ _)
        have y17 : Below v3.heap.size v3 v17 := by rw [hwv17]; exact ((Below.refl _ _).alloc (Nat.le_refl _) _)
        have y17s : v3.heap.size < v17.heap.size := by rw [hwv17]; show _ < (v3.alloc _).heap.size; simp
        have gv17 := on gv3 y17
        have Sv17 := (⟨(y17.cell (p := ⟨w.heap.size, 0, none⟩) (by simp only []; omega)).trans Sv3.1, (y17.cell (p := ⟨w.heap.size + 1, 0, none⟩) (by simp only []; omega)).trans Sv3.2.1, (y17.cell (p := ⟨w.heap.size + 1, 1, none⟩) (by simp only []; omega)).trans Sv3.2.2⟩ : (fun W => W.cell? ⟨w.heap.size, 0, none⟩ = some (.slice bu0 nu0 cu0) ∧ W.cell? ⟨w.heap.size + 1, 0, none⟩ = some (.int .i64 x1.1) ∧ W.cell? ⟨w.heap.size + 1, 1, none⟩ = some (.slice bu1 nu1 cu1)) v17)
        have cv17 := on y3 y17
        replace p0 := p0.below y17 (by omega)
        rw [← hwv17]
        clear hwv17
        refine hK.out _ _ ?_ (fun hHeld => ?_)
        · exact Sv17
        clear hK K
        try simp only [Act.put, List.setIfInBounds_toArray, List.set_cons_zero, List.set_cons_succ]
        refine wpAnyH_ready (rs := [3]) (by kernel_rfl) (by simp) ?_
        refine AllReadyH.cons rfl (fun K hK => ?_) AllReadyH.nil
        go_simp
        refine (to_Q _ x1 _ (rQ.mono h1 (gv17)) (by omega)).mono ?_
        rintro e v18 ⟨cp1, rfl, p1, y18⟩
        obtain ⟨bup1, nup1, cup1, rfl⟩ := oQ_form p1
        have y18s := y18.size
        have gv18 := on gv17 y18
        have Sv18 := (⟨(y18.cell (p := ⟨w.heap.size, 0, none⟩) (by simp only []; omega)).trans Sv17.1, (y18.cell (p := ⟨w.heap.size + 1, 0, none⟩) (by simp only []; omega)).trans Sv17.2.1, (y18.cell (p := ⟨w.heap.size + 1, 1, none⟩) (by simp only []; omega)).trans Sv17.2.2⟩ : (fun W => W.cell? ⟨w.heap.size, 0, none⟩ = some (.slice bu0 nu0 cu0) ∧ W.cell? ⟨w.heap.size + 1, 0, none⟩ = some (.int .i64 x1.1) ∧ W.cell? ⟨w.heap.size + 1, 1, none⟩ = some (.slice bu1 nu1 cu1)) v18)
        have cv18 := on cv17 y18
        replace p0 := p0.below y18 (by omega)
        replace n_0 := (y18.cell (p := ⟨v3.heap.size, 0, none⟩) (by simp only []; omega)).trans n_0
        replace n_1 := (y18.cell (p := ⟨v3.heap.size, 1, none⟩) (by simp only []; omega)).trans n_1
        replace n_f0 := (y18.frozen (p := ⟨v3.heap.size, 0, none⟩) (by simp only []; omega)).trans n_f0
        replace n_f1 := (y18.frozen (p := ⟨v3.heap.size, 1, none⟩) (by simp only []; omega)).trans n_f1
        refine hK.out _ _ ?_ (fun hHeld => ?_)
        · exact Sv18
        clear hK K
        try simp only [Act.put, List.setIfInBounds_toArray, List.set_cons_zero, List.set_cons_succ]
        refine wpAnyH_ready (rs := [4]) (by kernel_rfl) (by simp) ?_
        refine AllReadyH.cons rfl (fun K hK => ?_) AllReadyH.nil
        go_simp
        refine (evalQ_impl _ _ x0 x1 _ (p0.rd reads_Db) (p1.rd reads_Q)).mono ?_
        rintro e v19 ⟨cH0, rfl, H0, y19⟩
        obtain ⟨buH0, nuH0, cuH0, buH0b, nuH0b, cuH0b, rfl⟩ := oAn_form H0
        have y19s := y19.size
        have gv19 := on gv18 y19
        have Sv19 := (⟨(y19.cell (p := ⟨w.heap.size, 0, none⟩) (by simp only []; omega)).trans Sv18.1, (y19.cell (p := ⟨w.heap.size + 1, 0, none⟩) (by simp only []; omega)).trans Sv18.2.1, (y19.cell (p := ⟨w.heap.size + 1, 1, none⟩) (by simp only []; omega)).trans Sv18.2.2⟩ : (fun W => W.cell? ⟨w.heap.size, 0, none⟩ = some (.slice bu0 nu0 cu0) ∧ W.cell? ⟨w.heap.size + 1, 0, none⟩ = some (.int .i64 x1.1) ∧ W.cell? ⟨w.heap.size + 1, 1, none⟩ = some (.slice bu1 nu1 cu1)) v19)
        have cv19 := on cv18 y19
        replace n_0 := (y19.cell (p := ⟨v3.heap.size, 0, none⟩) (by simp only []; omega)).trans n_0
        replace n_1 := (y19.cell (p := ⟨v3.heap.size, 1, none⟩) (by simp only []; omega)).trans n_1
        replace n_f0 := (y19.frozen (p := ⟨v3.heap.size, 0, none⟩) (by simp only []; omega)).trans n_f0
        replace n_f1 := (y19.frozen (p := ⟨v3.heap.size, 1, none⟩) (by simp only []; omega)).trans n_f1
        refine hK.out _ _ ?_ (fun hHeld => ?_)
        · exact Sv19
        clear hK K
        try simp only [Act.put, List.setIfInBounds_toArray, List.set_cons_zero, List.set_cons_succ]
        refine wpAnyH_take (i := 5) (v := ?v5_p20) rfl (by kernel_rfl) (by kernel_rfl) (by kernel_rfl) (fun _ _ _ h => h) (Or.inl ⟨by rfl, ?hy5_p20⟩) (by assumption) ?rest5_p20
        case hy5_p20 => intro w hSw; (try dsimp only at hSw); go_simp; (try with_reducible rfl)
        try simp only [Act.put, List.getElem_toArray, List.getElem_cons_succ, List.getElem_cons_zero, List.setIfInBounds_toArray, List.set_cons_zero, List.set_cons_succ]
        refine wpAnyH_take (i := 6) (v := ?v6_p21) rfl (by kernel_rfl) (by kernel_rfl) (by kernel_rfl) (fun _ _ _ h => h) (Or.inl ⟨by rfl, ?hy6_p21⟩) (by assumption) ?rest6_p21
        case hy6_p21 => intro w hSw; (try dsimp only at hSw); go_simp; (try with_reducible rfl)
        try simp only [Act.put, List.getElem_toArray, List.getElem_cons_succ, List.getElem_cons_zero, List.setIfInBounds_toArray, List.set_cons_zero, List.set_cons_succ]
        refine wpAnyH_take (i := 7) (v := ?v7_p22) rfl (by kernel_rfl) (by kernel_rfl) (by kernel_rfl) (fun _ _ _ h => h) (Or.inl ⟨by rfl, ?hy7_p22⟩) (by assumption) ?rest7_p22
        case hy7_p22 => intro w hSw; (try dsimp only at hSw); go_simp; (try with_reducible rfl)
        try simp only [Act.put, List.getElem_toArray, List.getElem_cons_succ, List.getElem_cons_zero, List.setIfInBounds_toArray, List.set_cons_zero, List.set_cons_succ]
        refine wpAnyH_ready (rs := [9]) (by kernel_rfl) (by simp) ?_
        refine AllReadyH.cons rfl (fun K hK => ?_) AllReadyH.nil
        go_simp
        refine hK.out _ _ ?_ (fun hHeld => ?_)
        · exact ⟨cell_set (cell_set Sv19.1 (by simp only []; omega)) (by simp only []; omega), cell_set (cell_set Sv19.2.1 (by simp only []; omega)) (by simp only []; omega), cell_set (cell_set Sv19.2.2 (by simp only []; omega)) (by simp only []; omega)⟩
        clear hK K
        try simp only [Act.put, List.setIfInBounds_toArray, List.set_cons_zero, List.set_cons_succ]
        refine wpAnyH_take (i := 10) (v := ?v10_p23) rfl (by kernel_rfl) (by kernel_rfl) (by kernel_rfl) (fun _ _ _ h => h) (Or.inl ⟨by rfl, ?hy10_p23⟩) (by assumption) ?rest10_p23
        case hy10_p23 => intro w hSw; (try dsimp only at hSw); go_simp; (try with_reducible rfl)
        try simp only [Act.put, List.getElem_toArray, List.getElem_cons_succ, List.getElem_cons_zero, List.setIfInBounds_toArray, List.set_cons_zero, List.set_cons_succ]
        refine wpAnyH_done (by kernel_rfl) ?_ _
        refine NoPanic.normal ?_
        obtain ⟨Wf, hWf⟩ : ∃ W, W = (v19.setCell ⟨v3.heap.size, 0, none⟩ (.slice buH0 nuH0 cuH0)).setCell ⟨v3.heap.size, 1, none⟩ (.slice buH0b nuH0b cuH0b) := ⟨_, rfl⟩
        rw [← hWf]
        have f0 : Below w21.heap.size w21 Wf := by rw [hWf]; exact (cv19.setCell (by simp only []; omega) _).setCell (by simp only []; omega) _
        have f1 : v19.heap.size = Wf.heap.size := by rw [hWf]; simp [World.setCell]
        have f2 : Wf.cell? ⟨v3.heap.size, 0, none⟩ = some (.slice buH0 nuH0 cuH0) := by rw [hWf]; simp [go_sem, n_0, n_1]
        have f3 : Wf.cell? ⟨v3.heap.size, 1, none⟩ = some (.slice buH0b nuH0b cuH0b) := by rw [hWf]; simp [go_sem, n_0, n_1]
        have f4 : Own oAn v18.heap.size v19.heap.size Wf [.slice buH0 nuH0 cuH0, .slice buH0b nuH0b cuH0b] (evalM x0 x1 (fullMask x1)) := by rw [hWf]; exact Own.setOff (Own.setOff H0 rfl (by simp only []; omega)) rfl (by simp only []; omega)
        obtain ⟨BB, hBB⟩ : ∃ B, B = v3.heap.size := ⟨_, rfl⟩
        rw [← hBB] at f2 f3 ⊢
        have f5 : w21.heap.size ≤ BB ∧ BB < Wf.heap.size := by omega
        have f6 : w21.heap.size ≤ v18.heap.size ∧ v18.heap.size ≤ v19.heap.size ∧ v19.heap.size ≤ Wf.heap.size ∧ (BB < v18.heap.size ∨ v19.heap.size ≤ BB) := by omega
        have fin : ∃ lo hi, w21.heap.size ≤ lo ∧ lo ≤ hi ∧ hi ≤ Wf.heap.size ∧ (BB < lo ∨ hi ≤ BB) ∧ Own oAn lo hi Wf [.slice buH0 nuH0 cuH0, .slice buH0b nuH0b cuH0b] (evalM x0 x1 (fullMask x1)) := ⟨_, _, f6.1, f6.2.1, f6.2.2.1, f6.2.2.2, f4⟩
        clear f4 f6 hWf f1 hBB
        exact key BB Wf bup0 nup0 cup0 bup1 nup1 cup1 buH0 nuH0 cuH0 buH0b nuH0b cuH0b ⟨f0, f5.1, f5.2, ⟨f2, f3⟩, fin⟩
    · skip
      go_simp
      obtain ⟨v24, hwv24⟩ : ∃ W, W = (w21.alloc (.cells #[.slice none 0 0, .slice none 0 0] 49)).drew := ⟨_, rfl⟩
      have n_0 : v24.cell? ⟨w21.heap.size, 0, none⟩ = some (.slice none 0 0) := by rw [hwv24]; exact box_cell (Below.refl _ _).drew rfl
      have n_1 : v24.cell? ⟨w21.heap.size, 1, none⟩ = some (.slice none 0 0) := by rw [hwv24]; exact box_cell (Below.refl _ _).drew rfl
      have n_f0 : v24.frozen? ⟨w21.heap.size, 0, none⟩ = false := by rw [hwv24]; exact box_frozen (Below.refl _ _).drew
      have n_f1 : v24.frozen? ⟨w21.heap.size, 1, none⟩ = false := by rw [hwv24]; exact box_frozen (Below.refl _ _).drew
      have y24 : Below w21.heap.size w21 v24 := by rw [hwv24]; exact ((Below.refl _ _).alloc (Nat.le_refl _) _).drew
      have y24s : w21.heap.size < v24.heap.size := by rw [hwv24]; show _ < (w21.alloc _).heap.size; simp
      have gv24 := on hb21 y24
      have Sv24 := (⟨(y24.cell (p := ⟨w.heap.size, 0, none⟩) (by simp only []; omega)).trans bp0_0, (y24.cell (p := ⟨w.heap.size + 1, 0, none⟩) (by simp only []; omega)).trans bp1_0, (y24.cell (p := ⟨w.heap.size + 1, 1, none⟩) (by simp only []; omega)).trans bp1_1⟩ : (fun W => W.cell? ⟨w.heap.size, 0, none⟩ = some (.slice bu0 nu0 cu0) ∧ W.cell? ⟨w.heap.size + 1, 0, none⟩ = some (.int .i64 x1.1) ∧ W.cell? ⟨w.heap.size + 1, 1, none⟩ = some (.slice bu1 nu1 cu1)) v24)
      rw [← hwv24]
      clear hwv24
      refine hK.out _ _ ?_ (fun hHeld => ?_)
      · exact Sv24
      clear hK K
      try simp only [Act.put, List.setIfInBounds_toArray, List.set_cons_zero, List.set_cons_succ]
      refine wpAnyH_ready (rs := [1]) (by kernel_rfl) (by simp) ?_
      refine AllReadyH.cons rfl (fun K hK => ?_) AllReadyH.nil
      go_simp
      refine (to_Db _ x0 _ (rDb.mono h0 (gv24)) (by omega)).mono ?_
      rintro e v25 ⟨cp0, rfl, p0, y25⟩
      obtain ⟨bup0, nup0, cup0, rfl⟩ := oDb_form p0
      have y25s := y25.size
      have gv25 := on gv24 y25
      have Sv25 := (⟨(y25.cell (p := ⟨w.heap.size, 0, none⟩) (by simp only []; omega)).trans Sv24.1, (y25.cell (p := ⟨w.heap.size + 1, 0, none⟩) (by simp only []; omega)).trans Sv24.2.1, (y25.cell (p := ⟨w.heap.size + 1, 1, none⟩) (by simp only []; omega)).trans Sv24.2.2⟩ : (fun W => W.cell? ⟨w.heap.size, 0, none⟩ = some (.slice bu0 nu0 cu0) ∧ W.cell? ⟨w.heap.size + 1, 0, none⟩ = some (.int .i64 x1.1) ∧ W.cell? ⟨w.heap.size + 1, 1, none⟩ = some (.slice bu1 nu1 cu1)) v25)
      have cv25 := on y24 y25
      replace n_0 := (y25.cell (p := ⟨w21.heap.size, 0, none⟩) (by simp only []; omega)).trans n_0
      replace n_1 := (y25.cell (p := ⟨w21.heap.size, 1, none⟩) (by simp only []; omega)).trans n_1
      replace n_f0 := (y25.frozen (p := ⟨w21.heap.size, 0, none⟩) (by simp only []; omega)).trans n_f0
      replace n_f1 := (y25.frozen (p := ⟨w21.heap.size, 1, none⟩) (by simp only []; omega)).trans n_f1
      refine hK.out _ _ ?_ (fun hHeld => ?_)
      · exact Sv25
      clear hK K
      try simp only [Act.put, List.setIfInBounds_toArray, List.set_cons_zero, List.set_cons_succ]
      refine wpAnyH_ready (rs := [3]) (by kernel_rfl) (by simp) ?_
      refine AllReadyH.cons rfl (fun K hK => ?_) AllReadyH.nil
      go_simp
      refine (to_Q _ x1 _ (rQ.mono h1 (gv25)) (by omega)).mono ?_
      rintro e v26 ⟨cp1, rfl, p1, y26⟩
      obtain ⟨bup1, nup1, cup1, rfl⟩ := oQ_form p1
      have y26s := y26.size
      have gv26 := on gv25 y26
      have Sv26 := (⟨(y26.cell (p := ⟨w.heap.size, 0, none⟩) (by simp only []; omega)).trans Sv25.1, (y26.cell (p := ⟨w.heap.size + 1, 0, none⟩) (by simp only []; omega)).trans Sv25.2.1, (y26.cell (p := ⟨w.heap.size + 1, 1, none⟩) (by simp only []; omega)).trans Sv25.2.2⟩ : (fun W => W.cell? ⟨w.heap.size, 0, none⟩ = some (.slice bu0 nu0 cu0) ∧ W.cell? ⟨w.heap.size + 1, 0, none⟩ = some (.int .i64 x1.1) ∧ W.cell? ⟨w.heap.size + 1, 1, none⟩ = some (.slice bu1 nu1 cu1)) v26)
      have cv26 := on cv25 y26
      replace p0 := p0.below y26 (by omega)
      replace n_0 := (y26.cell (p := ⟨w21.heap.size, 0, none⟩) (by simp only []; omega)).trans n_0
      replace n_1 := (y26.cell (p := ⟨w21.heap.size, 1, none⟩) (by simp only []; omega)).trans n_1
      replace n_f0 := (y26.frozen (p := ⟨w21.heap.size, 0, none⟩) (by simp only []; omega)).trans n_f0
      replace n_f1 := (y26.frozen (p := ⟨w21.heap.size, 1, none⟩) (by simp only []; omega)).trans n_f1
      refine hK.out _ _ ?_ (fun hHeld => ?_)
      · exact Sv26
      clear hK K
      try simp only [Act.put, List.setIfInBounds_toArray, List.set_cons_zero, List.set_cons_succ]
      refine wpAnyH_ready (rs := [4]) (by kernel_rfl) (by simp) ?_
      refine AllReadyH.cons rfl (fun K hK => ?_) AllReadyH.nil
      go_simp
      refine (evalQ_impl _ _ x0 x1 _ (p0.rd reads_Db) (p1.rd reads_Q)).mono ?_
      rintro e v27 ⟨cH0, rfl, H0, y27⟩
      obtain ⟨buH0, nuH0, cuH0, buH0b, nuH0b, cuH0b, rfl⟩ := oAn_form H0
      have y27s := y27.size
      have gv27 := on gv26 y27
      have Sv27 := (⟨(y27.cell (p := ⟨w.heap.size, 0, none⟩) (by simp only []; omega)).trans Sv26.1, (y27.cell (p := ⟨w.heap.size + 1, 0, none⟩) (by simp only []; omega)).trans Sv26.2.1, (y27.cell (p := ⟨w.heap.size + 1, 1, none⟩) (by simp only []; omega)).trans Sv26.2.2⟩ : (fun W => W.cell? ⟨w.heap.size, 0, none⟩ = some (.slice bu0 nu0 cu0) ∧ W.cell? ⟨w.heap.size + 1, 0, none⟩ = some (.int .i64 x1.1) ∧ W.cell? ⟨w.heap.size + 1, 1, none⟩ = some (.slice bu1 nu1 cu1)) v27)
      have cv27 := on cv26 y27
      replace n_0 := (y27.cell (p := ⟨w21.heap.size, 0, none⟩) (by simp only []; omega)).trans n_0
      replace n_1 := (y27.cell (p := ⟨w21.heap.size, 1, none⟩) (by simp only []; omega)).trans n_1
      replace n_f0 := (y27.frozen (p := ⟨w21.heap.size, 0, none⟩) (by simp only []; omega)).trans n_f0
      replace n_f1 := (y27.frozen (p := ⟨w21.heap.size, 1, none⟩) (by simp only []; omega)).trans n_f1
      refine hK.out _ _ ?_ (fun hHeld => ?_)
      · exact Sv27
      clear hK K
      try simp only [Act.put, List.setIfInBounds_toArray, List.set_cons_zero, List.set_cons_succ]
      refine wpAnyH_take (i := 5) (v := ?v5_p28) rfl (by kernel_rfl) (by kernel_rfl) (by kernel_rfl) (fun _ _ _ h => h) (Or.inl ⟨by rfl, ?hy5_p28⟩) (by assumption) ?rest5_p28
      case hy5_p28 => intro w hSw; (try dsimp only at hSw); go_simp; (try with_reducible rfl)
      try simp only [Act.put, List.getElem_toArray, List.getElem_cons_succ, List.getElem_cons_zero, List.setIfInBounds_toArray, List.set_cons_zero, List.set_cons_succ]
      refine wpAnyH_take (i := 6) (v := ?v6_p29) rfl (by kernel_rfl) (by kernel_rfl) (by kernel_rfl) (fun _ _ _ h => h) (Or.inl ⟨by rfl, ?hy6_p29⟩) (by assumption) ?rest6_p29
      case hy6_p29 => intro w hSw; (try dsimp only at hSw); go_simp; (try with_reducible rfl)
      try simp only [Act.put, List.getElem_toArray, List.getElem_cons_succ, List.getElem_cons_zero, List.setIfInBounds_toArray, List.set_cons_zero, List.set_cons_succ]
      refine wpAnyH_take (i := 7) (v := ?v7_p30) rfl (by kernel_rfl) (by kernel_rfl) (by kernel_rfl) (fun _ _ _ h => h) (Or.inl ⟨by rfl, ?hy7_p30⟩) (by assumption) ?rest7_p30
      case hy7_p30 => intro w hSw; (try dsimp only at hSw); go_simp; (try with_reducible rfl)
      try simp only [Act.put, List.getElem_toArray, List.getElem_cons_succ, List.getElem_cons_zero, List.setIfInBounds_toArray, List.set_cons_zero, List.set_cons_succ]
      refine wpAnyH_ready (rs := [9]) (by kernel_rfl) (by simp) ?_
      refine AllReadyH.cons rfl (fun K hK => ?_) AllReadyH.nil
      go_simp
      refine hK.out _ _ ?_ (fun hHeld => ?_)
      · exact ⟨cell_set (cell_set Sv27.1 (by simp only []; omega)) (by simp only []; omega), cell_set (cell_set Sv27.2.1 (by simp only []; omega)) (by simp only []; omega), cell_set (cell_set Sv27.2.2 (by simp only []; omega)) (by simp only []; omega)⟩
      clear hK K
      try simp only [Act.put, List.setIfInBounds_toArray, List.set_cons_zero, List.set_cons_succ]
      refine wpAnyH_take (i := 10) (v := ?v10_p31) rfl (by kernel_rfl) (by kernel_rfl) (by kernel_rfl) (fun _ _ _ h => h) (Or.inl ⟨by rfl, ?hy10_p31⟩) (by assumption) ?rest10_p31
      case hy10_p31 => intro w hSw; (try dsimp only at hSw); go_simp; (try with_reducible rfl)
      try simp only [Act.put, List.getElem_toArray, List.getElem_cons_succ, List.getElem_cons_zero, List.setIfInBounds_toArray, List.set_cons_zero, List.set_cons_succ]
      refine wpAnyH_done (by kernel_rfl) ?_ _
      refine NoPanic.normal ?_
      obtain ⟨Wf, hWf⟩ : ∃ W, W = (v27.setCell ⟨w21.heap.size, 0, none⟩ (.slice buH0 nuH0 cuH0)).setCell ⟨w21.heap.size, 1, none⟩ (.slice buH0b nuH0b cuH0b) := ⟨_, rfl⟩
      rw [← hWf]
      have f0 : Below w21.heap.size w21 Wf := by rw [hWf]; exact (cv27.setCell (by simp only []; omega) _).setCell (by simp only []; omega) _
      have f1 : v27.heap.size = Wf.heap.size := by rw [hWf]; simp [World.setCell]
      have f2 : Wf.cell? ⟨w21.heap.size, 0, none⟩ = some (.slice buH0 nuH0 cuH0) := by rw [hWf]; simp [go_sem, n_0, n_1]
      have f3 : Wf.cell? ⟨w21.heap.size, 1, none⟩ = some (.slice buH0b nuH0b cuH0b) := by rw [hWf]; simp [go_sem, n_0, n_1]
      have f4 : Own oAn v26.heap.size v27.heap.size Wf [.slice buH0 nuH0 cuH0, .slice buH0b nuH0b cuH0b] (evalM x0 x1 (fullMask x1)) := by rw [hWf]; exact Own.setOff (Own.setOff H0 rfl (by simp only []; omega)) rfl (by simp only []; omega)
      obtain ⟨BB, hBB⟩ : ∃ B, B = w21.heap.size := ⟨_, rfl⟩
      rw [← hBB] at f2 f3 ⊢
      have f5 : w21.heap.size ≤ BB ∧ BB < Wf.heap.size := by omega
      have f6 : w21.heap.size ≤ v26.heap.size ∧ v26.heap.size ≤ v27.heap.size ∧ v27.heap.size ≤ Wf.heap.size ∧ (BB < v26.heap.size ∨ v27.heap.size ≤ BB) := by omega
      have fin : ∃ lo hi, w21.heap.size ≤ lo ∧ lo ≤ hi ∧ hi ≤ Wf.heap.size ∧ (BB < lo ∨ hi ≤ BB) ∧ Own oAn lo hi Wf [.slice buH0 nuH0 cuH0, .slice buH0b nuH0b cuH0b] (evalM x0 x1 (fullMask x1)) := ⟨_, _, f6.1, f6.2.1, f6.2.2.1, f6.2.2.2, f4⟩
      clear f4 f6 hWf f1 hBB
      exact key BB Wf bup0 nup0 cup0 bup1 nup1 cup1 buH0 nuH0 cuH0 buH0b nuH0b cuH0b ⟨f0, f5.1, f5.2, ⟨f2, f3⟩, fin⟩
  intro BH0 w22 bup0 nup0 cup0 bup1 nup1 cup1 buH0 nuH0 cuH0 buH0b nuH0b cuH0b hF
  obtain ⟨z22, BH0q, BH0r, ⟨bH0_0, bH0_1⟩, loH0, hiH0, BH0a, BH0b, BH0c, BH0d, H0⟩ := hF
  have s22 := z22.size
  have hb22 := on hb21 z22
  replace W0 := W0.below z22 (by omega)
  replace M0 := M0.below z22 (by omega)
  replace bp0_0 := (z22.cell (p := ⟨w.heap.size, 0, none⟩) (by simp only []; omega)).trans bp0_0
  replace bp1_0 := (z22.cell (p := ⟨w.heap.size + 1, 0, none⟩) (by simp only []; omega)).trans bp1_0
  replace bp1_1 := (z22.cell (p := ⟨w.heap.size + 1, 1, none⟩) (by simp only []; omega)).trans bp1_1
  replace bW0_0 := (z22.cell (p := ⟨BW0, 0, none⟩) (by simp only []; omega)).trans bW0_0
  replace bW0_1 := (z22.cell (p := ⟨BW0, 1, none⟩) (by simp only []; omega)).trans bW0_1
  replace by0_0 := (z22.cell (p := ⟨w6.heap.size, 0, none⟩) (by simp only []; omega)).trans by0_0
  replace by1_0 := (z22.cell (p := ⟨w8.heap.size, 0, none⟩) (by simp only []; omega)).trans by1_0
  replace by1_1 := (z22.cell (p := ⟨w8.heap.size, 1, none⟩) (by simp only []; omega)).trans by1_1
  replace bG0_0 := (z22.cell (p := ⟨w10.heap.size, 0, none⟩) (by simp only []; omega)).trans bG0_0
  replace bG0_1 := (z22.cell (p := ⟨w10.heap.size, 1, none⟩) (by simp only []; omega)).trans bG0_1
  go_wp2_with fail
  refine (eq_An _ _ _ _ _ (H0.rd reads_An) (W0.rd reads_An)).mono ?_
  rintro e w23 ⟨rfl, z23⟩
  have s23 := z23.size
  have hb23 := on hb22 z23
  replace W0 := W0.below z23 (by omega)
  replace M0 := M0.below z23 (by omega)
  replace H0 := H0.below z23 (by omega)
  replace bp0_0 := (z23.cell (p := ⟨w.heap.size, 0, none⟩) (by simp only []; omega)).trans bp0_0
  replace bp1_0 := (z23.cell (p := ⟨w.heap.size + 1, 0, none⟩) (by simp only []; omega)).trans bp1_0
  replace bp1_1 := (z23.cell (p := ⟨w.heap.size + 1, 1, none⟩) (by simp only []; omega)).trans bp1_1
  replace bW0_0 := (z23.cell (p := ⟨BW0, 0, none⟩) (by simp only []; omega)).trans bW0_0
  replace bW0_1 := (z23.cell (p := ⟨BW0, 1, none⟩) (by simp only []; omega)).trans bW0_1
  replace by0_0 := (z23.cell (p := ⟨w6.heap.size, 0, none⟩) (by simp only []; omega)).trans by0_0
  replace by1_0 := (z23.cell (p := ⟨w8.heap.size, 0, none⟩) (by simp only []; omega)).trans by1_0
  replace by1_1 := (z23.cell (p := ⟨w8.heap.size, 1, none⟩) (by simp only []; omega)).trans by1_1
  replace bG0_0 := (z23.cell (p := ⟨w10.heap.size, 0, none⟩) (by simp only []; omega)).trans bG0_0
  replace bG0_1 := (z23.cell (p := ⟨w10.heap.size, 1, none⟩) (by simp only []; omega)).trans bG0_1
  replace bH0_0 := (z23.cell (p := ⟨BH0, 0, none⟩) (by simp only []; omega)).trans bH0_0
  replace bH0_1 := (z23.cell (p := ⟨BH0, 1, none⟩) (by simp only []; omega)).trans bH0_1
  go_wp2_with fail
  refine (held_An _ _ (1) _ (M0.rd reads_An) (by omega) (by omega) (by omega)).mono ?_
  rintro e w24 ⟨rfl, z24⟩
  have s24 := z24.size
  have hb24 := on hb23 z24
  replace W0 := W0.below z24 (by omega)
  replace M0 := M0.below z24 (by omega)
  replace H0 := H0.below z24 (by omega)
  replace bp0_0 := (z24.cell (p := ⟨w.heap.size, 0, none⟩) (by simp only []; omega)).trans bp0_0
  replace bp1_0 := (z24.cell (p := ⟨w.heap.size + 1, 0, none⟩) (by simp only []; omega)).trans bp1_0
  replace bp1_1 := (z24.cell (p := ⟨w.heap.size + 1, 1, none⟩) (by simp only []; omega)).trans bp1_1
  replace bW0_0 := (z24.cell (p := ⟨BW0, 0, none⟩) (by simp only []; omega)).trans bW0_0
  replace bW0_1 := (z24.cell (p := ⟨BW0, 1, none⟩) (by simp only []; omega)).trans bW0_1
  replace by0_0 := (z24.cell (p := ⟨w6.heap.size, 0, none⟩) (by simp only []; omega)).trans by0_0
  replace by1_0 := (z24.cell (p := ⟨w8.heap.size, 0, none⟩) (by simp only []; omega)).trans by1_0
  replace by1_1 := (z24.cell (p := ⟨w8.heap.size, 1, none⟩) (by simp only []; omega)).trans by1_1
  replace bG0_0 := (z24.cell (p := ⟨w10.heap.size, 0, none⟩) (by simp only []; omega)).trans bG0_0
  replace bG0_1 := (z24.cell (p := ⟨w10.heap.size, 1, none⟩) (by simp only []; omega)).trans bG0_1
  replace bH0_0 := (z24.cell (p := ⟨BH0, 0, none⟩) (by simp only []; omega)).trans bH0_0
  replace bH0_1 := (z24.cell (p := ⟨BH0, 1, none⟩) (by simp only []; omega)).trans bH0_1
  go_wp2_with fail
  go_ret
  exact ⟨rfl, hb24⟩

end Go.Proofs.YtkipgbgkhffkkaaGreat
