/- Texts joined for one claim: LEvaluateMask. -/
import Derived.Test.YtkipgbgkhffkkaaGreatQc7dfe7d8e4
import Derived.Deep.RegionHeld3

/- The walk of the law EvaluateMask. Written by a program. -/
namespace Go.Proofs.YtkipgbgkhffkkaaGreat
open Go.RowKit
set_option linter.unusedVariables false
set_option linter.unusedSimpArgs false
set_option synthInstance.maxSize 2000
set_option synthInstance.maxHeartbeats 400000

set_option maxHeartbeats 4000000 in
set_option maxRecDepth 100000 in
theorem walk_FnExactEvaluateMask (v0 : Value) (v1 : Value) (v2 : Value) (w : World) (h0 : kDb_in w v0) (h1 : kQ_in w v1) (h2 : int_in w v2) :
    Calls Tryz.prog 4 #[v0, v1, v2] w fun e w' => e = .returned (.bool true) ∧ Below w.heap.size w w' := by
  obtain ⟨c0, x0, rfl, h0⟩ := h0
  obtain ⟨bu0, nu0, cu0, rfl⟩ := rDb_form h0
  obtain ⟨c1, x1, rfl, h1⟩ := h1
  obtain ⟨bu1, nu1, cu1, rfl⟩ := rQ_form h1
  obtain ⟨x2, rfl, h2⟩ := h2
  have hb0 : Below w.heap.size w w := Below.refl _ _
  go_enter Tryz.func4, Tryz.ntmps4
  obtain ⟨w1, hw1⟩ : ∃ W, W = w.alloc (.cells #[.slice bu0 nu0 cu0] 24) := ⟨_, rfl⟩
  have z1 : Below w.heap.size w w1 := by rw [hw1]; exact (Below.refl _ _).alloc (Nat.le_refl _) _
  have s1 : w1.heap.size = w.heap.size + 1 := by rw [hw1]; simp
  have hb1 := on hb0 z1
  have bp0_0 : w1.cell? ⟨w.heap.size, 0, none⟩ = some (.slice bu0 nu0 cu0) := by rw [hw1]; exact box_cell (Below.refl _ _) rfl
  obtain ⟨w2, hw2⟩ : ∃ W, W = w1.alloc (.cells #[.int .i64 x1.1, .slice bu1 nu1 cu1] 27) := ⟨_, rfl⟩
  have z2 : Below w1.heap.size w1 w2 := by rw [hw2]; exact (Below.refl _ _).alloc (Nat.le_refl _) _
  have s2 : w2.heap.size = w1.heap.size + 1 := by rw [hw2]; simp
  have hb2 := on hb1 z2
  replace bp0_0 := (z2.cell (p := ⟨w.heap.size, 0, none⟩) (by simp only []; omega)).trans bp0_0
  have bp1_0 : w2.cell? ⟨w1.heap.size, 0, none⟩ = some (.int .i64 x1.1) := by rw [hw2]; exact box_cell (Below.refl _ _) rfl
  have bp1_1 : w2.cell? ⟨w1.heap.size, 1, none⟩ = some (.slice bu1 nu1 cu1) := by rw [hw2]; exact box_cell (Below.refl _ _) rfl
  have e2 : w1.heap.size = w.heap.size + 1 := by omega
  rw [e2] at bp1_0 bp1_1
  go_wp2_with fail
  rw [← hw1]
  clear hw1
  rw [← hw2]
  clear hw2
  refine (sz_Db _ x0 (1048576) _ (rDb.mono h0 hb2) (by omega) (by omega)).mono ?_
  rintro e w3 ⟨rfl, z3⟩
  have s3 := z3.size
  have hb3 := on hb2 z3
  replace bp0_0 := (z3.cell (p := ⟨w.heap.size, 0, none⟩) (by simp only []; omega)).trans bp0_0
  replace bp1_0 := (z3.cell (p := ⟨w.heap.size + 1, 0, none⟩) (by simp only []; omega)).trans bp1_0
  replace bp1_1 := (z3.cell (p := ⟨w.heap.size + 1, 1, none⟩) (by simp only []; omega)).trans bp1_1
  obtain ⟨q0, hq0⟩ : ∃ q, q = szR (1048576) (bulk_Db x0) := ⟨_, rfl⟩
  rw [← hq0]
  have hc0 := szR_cases (1048576) (bulk_Db x0)
  rw [← hq0] at hc0
  clear hq0
  rcases hc0 with ⟨rfl, _⟩ | ⟨hq0, hbk0⟩
  · go_wp2_with fail
    go_ret
    exact ⟨rfl, hb3⟩
  have hlo0 : 0 ≤ q0 ∧ q0 ≤ 1048576 := by omega
  have hbl0 : bulk_Db x0 ≤ 1048576 := by omega
  obtain ⟨hlo0, hlp0⟩ := hlo0
  have HQ0 := Lib.hid hq0
  clear hq0 hbk0
  go_wp2_with fail
  refine (sz_Q _ x1 (q0) _ (rQ.mono h1 hb3) (by omega) (by omega)).mono ?_
  rintro e w4 ⟨rfl, z4⟩
  have s4 := z4.size
  have hb4 := on hb3 z4
  replace bp0_0 := (z4.cell (p := ⟨w.heap.size, 0, none⟩) (by simp only []; omega)).trans bp0_0
  replace bp1_0 := (z4.cell (p := ⟨w.heap.size + 1, 0, none⟩) (by simp only []; omega)).trans bp1_0
  replace bp1_1 := (z4.cell (p := ⟨w.heap.size + 1, 1, none⟩) (by simp only []; omega)).trans bp1_1
  obtain ⟨q1, hq1⟩ : ∃ q, q = szR (q0) (bulk_Q x1) := ⟨_, rfl⟩
  rw [← hq1]
  have hc1 := szR_cases (q0) (bulk_Q x1)
  rw [← hq1] at hc1
  clear hq1
  rcases hc1 with ⟨rfl, _⟩ | ⟨hq1, hbk1⟩
  · go_wp2_with fail
    go_ret
    exact ⟨rfl, hb4⟩
  have hlo1 : 0 ≤ q1 ∧ q1 ≤ 1048576 := by omega
  have hbl1 : bulk_Q x1 ≤ 1048576 := by omega
  obtain ⟨hlo1, hlp1⟩ := hlo1
  have HQ1 := Lib.hid hq1
  clear hq1 hbk1
  go_wp2_with fail
  apply share4 (fun (BW0 : Nat) (w5 : World) (but0 : Option Addr) (nut0 : Nat) (cut0 : Nat) (but1 : Option Addr) (nut1 : Nat) (cut1 : Nat) (buW0 : Option Addr) (nuW0 : Nat) (cuW0 : Nat) (buW0b : Option Addr) (nuW0b : Nat) (cuW0b : Nat) => Below w4.heap.size w4 w5 ∧ w4.heap.size ≤ BW0 ∧ BW0 < w5.heap.size ∧ (w5.cell? ⟨BW0, 0, none⟩ = some (.slice buW0 nuW0 cuW0) ∧ w5.cell? ⟨BW0, 1, none⟩ = some (.slice buW0b nuW0b cuW0b)) ∧ ∃ lo hi, w4.heap.size ≤ lo ∧ lo ≤ hi ∧ hi ≤ w5.heap.size ∧ (BW0 < lo ∨ hi ≤ BW0) ∧ Own oAn lo hi w5 [.slice buW0 nuW0 cuW0, .slice buW0b nuW0b cuW0b] (evalM x0 x1 x2))
  case br =>
    intro key
    refine wp_region_noPanic ?_
    refine wp_region_held_drew (S := (fun W => W.cell? ⟨w.heap.size, 0, none⟩ = some (.slice bu0 nu0 cu0) ∧ W.cell? ⟨w.heap.size + 1, 0, none⟩ = some (.int .i64 x1.1) ∧ W.cell? ⟨w.heap.size + 1, 1, none⟩ = some (.slice bu1 nu1 cu1))) (by kernel_rfl) ?hS (fun hHeld => ?_)
    case hS => exact ⟨bp0_0, bp1_0, bp1_1⟩
    refine wpAnyH_take (i := 0) (v := ?v0_t1) rfl (by kernel_rfl) (by kernel_rfl) (by kernel_rfl) (fun _ _ _ h => h) (Or.inl ⟨by rfl, ?hy0_t1⟩) (by assumption) ?rest0_t1
    case hy0_t1 => intro w hSw; (try dsimp only at hSw); go_simp; (try with_reducible rfl)
    try simp only [Act.put, List.getElem_toArray, List.getElem_cons_succ, List.getElem_cons_zero, List.setIfInBounds_toArray, List.set_cons_zero, List.set_cons_succ]
    refine wpAnyH_take (i := 2) (v := ?v2_t2) rfl (by kernel_rfl) (by kernel_rfl) (by kernel_rfl) (fun _ _ _ h => h) (Or.inl ⟨by rfl, ?hy2_t2⟩) (by assumption) ?rest2_t2
    case hy2_t2 => intro w hSw; (try dsimp only at hSw); go_simp; (try with_reducible rfl)
    try simp only [Act.put, List.getElem_toArray, List.getElem_cons_succ, List.getElem_cons_zero, List.setIfInBounds_toArray, List.set_cons_zero, List.set_cons_succ]
    refine wpAnyH_take (i := 4) (v := ?v4_t3) rfl (by kernel_rfl) (by kernel_rfl) (by kernel_rfl) (fun _ _ _ h => h) (Or.inl ⟨by rfl, ?hy4_t3⟩) (by assumption) ?rest4_t3
    case hy4_t3 => intro w hSw; (try dsimp only at hSw); go_simp; (try with_reducible rfl)
    try simp only [Act.put, List.getElem_toArray, List.getElem_cons_succ, List.getElem_cons_zero, List.setIfInBounds_toArray, List.set_cons_zero, List.set_cons_succ]
    refine wpAnyH_ready (rs := [1, 9]) (by kernel_rfl) (by simp) ?_
    refine AllReadyH.cons rfl (fun K hK => ?_) (AllReadyH.cons rfl (fun K hK => ?_) AllReadyH.nil)
    · skip
      go_simp
      refine (to_Db _ x0 _ (rDb.mono h0 (hb4.drew)) (by omega)).mono ?_
      rintro e v4 ⟨ct0, rfl, t0, y4⟩
      obtain ⟨but0, nut0, cut0, rfl⟩ := oDb_form t0
      replace y4 : Below w4.heap.size w4 v4 := on (Below.refl _ _).drew y4
      have y4s := y4.size
      have gv4 := on hb4 y4
      have Sv4 := (⟨(y4.cell (p := ⟨w.heap.size, 0, none⟩) (by simp only []; omega)).trans bp0_0, (y4.cell (p := ⟨w.heap.size + 1, 0, none⟩) (by simp only []; omega)).trans bp1_0, (y4.cell (p := ⟨w.heap.size + 1, 1, none⟩) (by simp only []; omega)).trans bp1_1⟩ : (fun W => W.cell? ⟨w.heap.size, 0, none⟩ = some (.slice bu0 nu0 cu0) ∧ W.cell? ⟨w.heap.size + 1, 0, none⟩ = some (.int .i64 x1.1) ∧ W.cell? ⟨w.heap.size + 1, 1, none⟩ = some (.slice bu1 nu1 cu1)) v4)
      refine hK.out _ _ ?_ (fun hHeld => ?_)
      · exact Sv4
      clear hK K
      try simp only [Act.put, List.setIfInBounds_toArray, List.set_cons_zero, List.set_cons_succ]
      refine wpAnyH_ready (rs := [3, 9]) (by kernel_rfl) (by simp) ?_
      refine AllReadyH.cons rfl (fun K hK => ?_) (AllReadyH.cons rfl (fun K hK => ?_) AllReadyH.nil)
      · skip
        go_simp
        refine (to_Q _ x1 _ (rQ.mono h1 (gv4)) (by omega)).mono ?_
        rintro e v5 ⟨ct1, rfl, t1, y5⟩
        obtain ⟨but1, nut1, cut1, rfl⟩ := oQ_form t1
        have y5s := y5.size
        have gv5 := on gv4 y5
        have Sv5 := (⟨(y5.cell (p := ⟨w.heap.size, 0, none⟩) (by simp only []; omega)).trans Sv4.1, (y5.cell (p := ⟨w.heap.size + 1, 0, none⟩) (by simp only []; omega)).trans Sv4.2.1, (y5.cell (p := ⟨w.heap.size + 1, 1, none⟩) (by simp only []; omega)).trans Sv4.2.2⟩ : (fun W => W.cell? ⟨w.heap.size, 0, none⟩ = some (.slice bu0 nu0 cu0) ∧ W.cell? ⟨w.heap.size + 1, 0, none⟩ = some (.int .i64 x1.1) ∧ W.cell? ⟨w.heap.size + 1, 1, none⟩ = some (.slice bu1 nu1 cu1)) v5)
        have cv5 := on y4 y5
        replace t0 := t0.below y5 (by omega)
        refine hK.out _ _ ?_ (fun hHeld => ?_)
        · exact Sv5
        clear hK K
        try simp only [Act.put, List.setIfInBounds_toArray, List.set_cons_zero, List.set_cons_succ]
        refine wpAnyH_ready (rs := [5, 9]) (by kernel_rfl) (by simp) ?_
        refine AllReadyH.cons rfl (fun K hK => ?_) (AllReadyH.cons rfl (fun K hK => ?_) AllReadyH.nil)
        · skip
          go_simp
          refine (eval_spec _ _ x0 x1 x2 _ (t0.rd reads_Db) (t1.rd reads_Q) h2).mono ?_
          rintro e v6 ⟨cW0, rfl, W0, y6⟩
          obtain ⟨buW0, nuW0, cuW0, buW0b, nuW0b, cuW0b, rfl⟩ := oAn_form W0
          have y6s := y6.size
          have gv6 := on gv5 y6
          have Sv6 := (⟨(y6.cell (p := ⟨w.heap.size, 0, none⟩) (by simp only []; omega)).trans Sv5.1, (y6.cell (p := ⟨w.heap.size + 1, 0, none⟩) (by simp only []; omega)).trans Sv5.2.1, (y6.cell (p := ⟨w.heap.size + 1, 1, none⟩) (by simp only []; omega)).trans Sv5.2.2⟩ : (fun W => W.cell? ⟨w.heap.size, 0, none⟩ = some (.slice bu0 nu0 cu0) ∧ W.cell? ⟨w.heap.size + 1, 0, none⟩ = some (.int .i64 x1.1) ∧ W.cell? ⟨w.heap.size + 1, 1, none⟩ = some (.slice bu1 nu1 cu1)) v6)
          have cv6 := on cv5 y6
          refine hK.out _ _ ?_ (fun hHeld => ?_)
          · exact Sv6
          clear hK K
          try simp only [Act.put, List.setIfInBounds_toArray, List.set_cons_zero, List.set_cons_succ]
          refine wpAnyH_take (i := 6) (v := ?v6_t7) rfl (by kernel_rfl) (by kernel_rfl) (by kernel_rfl) (fun _ _ _ h => h) (Or.inl ⟨by rfl, ?hy6_t7⟩) (by assumption) ?rest6_t7
          case hy6_t7 => intro w hSw; (try dsimp only at hSw); go_simp; (try with_reducible rfl)
          try simp only [Act.put, List.getElem_toArray, List.getElem_cons_succ, List.getElem_cons_zero, List.setIfInBounds_toArray, List.set_cons_zero, List.set_cons_succ]
          refine wpAnyH_take (i := 7) (v := ?v7_t8) rfl (by kernel_rfl) (by kernel_rfl) (by kernel_rfl) (fun _ _ _ h => h) (Or.inl ⟨by rfl, ?hy7_t8⟩) (by assumption) ?rest7_t8
          case hy7_t8 => intro w hSw; (try dsimp only at hSw); go_simp; (try with_reducible rfl)
          try simp only [Act.put, List.getElem_toArray, List.getElem_cons_succ, List.getElem_cons_zero, List.setIfInBounds_toArray, List.set_cons_zero, List.set_cons_succ]
          refine wpAnyH_take (i := 8) (v := ?v8_t9) rfl (by kernel_rfl) (by kernel_rfl) (by kernel_rfl) (fun _ _ _ h => h) (Or.inl ⟨by rfl, ?hy8_t9⟩) (by assumption) ?rest8_t9
          case hy8_t9 => intro w hSw; (try dsimp only at hSw); go_simp; (try with_reducible rfl)
          try simp only [Act.put, List.getElem_toArray, List.getElem_cons_succ, List.getElem_cons_zero, List.setIfInBounds_toArray, List.set_cons_zero, List.set_cons_succ]
          refine wpAnyH_ready (rs := [9]) (by kernel_rfl) (by simp) ?_
          refine AllReadyH.cons rfl (fun K hK => ?_) AllReadyH.nil
          go_simp
          obtain ⟨v10, hwv10⟩ : ∃ W, W = v6.alloc (.cells #[.slice none 0 0, .slice none 0 0] 49) := ⟨_, rfl⟩
          have n_0 : v10.cell? ⟨v6.heap.size, 0, none⟩ = some (.slice none 0 0) := by rw [hwv10]; exact box_cell (Below.refl _ _) rfl
          have n_1 : v10.cell? ⟨v6.heap.size, 1, none⟩ = some (.slice none 0 0) := by rw [hwv10]; exact box_cell (Below.refl _ _) rfl
          have n_f0 : v10.frozen? ⟨v6.heap.size, 0, none⟩ = false := by rw [hwv10]; exact box_frozen (Below.refl _ _)
          have n_f1 : v10.frozen? ⟨v6.heap.size, 1, none⟩ = false := by rw [hwv10]; exact box_frozen (Below.refl _ _)
          have y10 : Below v6.heap.size v6 v10 := by rw [hwv10]; exact ((Below.refl _ _).alloc (Nat.le_refl _) _)
          have y10s : v6.heap.size < v10.heap.size := by rw [hwv10]; show _ < (v6.alloc _).heap.size; simp
          have gv10 := on gv6 y10
          have Sv10 := (⟨(y10.cell (p := ⟨w.heap.size, 0, none⟩) (by simp only []; omega)).trans Sv6.1, (y10.cell (p := ⟨w.heap.size + 1, 0, none⟩) (by simp only []; omega)).trans Sv6.2.1, (y10.cell (p := ⟨w.heap.size + 1, 1, none⟩) (by simp only []; omega)).trans Sv6.2.2⟩ : (fun W => W.cell? ⟨w.heap.size, 0, none⟩ = some (.slice bu0 nu0 cu0) ∧ W.cell? ⟨w.heap.size + 1, 0, none⟩ = some (.int .i64 x1.1) ∧ W.cell? ⟨w.heap.size + 1, 1, none⟩ = some (.slice bu1 nu1 cu1)) v10)
          have cv10 := on cv6 y10
          replace W0 := W0.below y10 (by omega)
          rw [← hwv10]
          clear hwv10
          refine hK.out _ _ ?_ (fun hHeld => ?_)
          · exact Sv10
          clear hK K
          try simp only [Act.put, List.setIfInBounds_toArray, List.set_cons_zero, List.set_cons_succ]
          refine wpAnyH_ready (rs := [10]) (by kernel_rfl) (by simp) ?_
          refine AllReadyH.cons rfl (fun K hK => ?_) AllReadyH.nil
          go_simp
          refine hK.out _ _ ?_ (fun hHeld => ?_)
          · exact ⟨cell_set (cell_set Sv10.1 (by simp only []; omega)) (by simp only []; omega), cell_set (cell_set Sv10.2.1 (by simp only []; omega)) (by simp only []; omega), cell_set (cell_set Sv10.2.2 (by simp only []; omega)) (by simp only []; omega)⟩
          clear hK K
          try simp only [Act.put, List.setIfInBounds_toArray, List.set_cons_zero, List.set_cons_succ]
          refine wpAnyH_take (i := 11) (v := ?v11_t11) rfl (by kernel_rfl) (by kernel_rfl) (by kernel_rfl) (fun _ _ _ h => h) (Or.inl ⟨by rfl, ?hy11_t11⟩) (by assumption) ?rest11_t11
          case hy11_t11 => intro w hSw; (try dsimp only at hSw); go_simp; (try with_reducible rfl)
          try simp only [Act.put, List.getElem_toArray, List.getElem_cons_succ, List.getElem_cons_zero, List.setIfInBounds_toArray, List.set_cons_zero, List.set_cons_succ]
          refine wpAnyH_done (by kernel_rfl) ?_ _
          refine NoPanic.normal ?_
          obtain ⟨Wf, hWf⟩ : ∃ W, W = (v10.setCell ⟨v6.heap.size, 0, none⟩ (.slice buW0 nuW0 cuW0)).setCell ⟨v6.heap.size, 1, none⟩ (.slice buW0b nuW0b cuW0b) := ⟨_, rfl⟩
          rw [← hWf]
          have f0 : Below w4.heap.size w4 Wf := by rw [hWf]; exact (cv10.setCell (by simp only []; omega) _).setCell (by simp only []; omega) _
          have f1 : v10.heap.size = Wf.heap.size := by rw [hWf]; simp [World.setCell]
          have f2 : Wf.cell? ⟨v6.heap.size, 0, none⟩ = some (.slice buW0 nuW0 cuW0) := by rw [hWf]; simp [go_sem, n_0, n_1]
          have f3 : Wf.cell? ⟨v6.heap.size, 1, none⟩ = some (.slice buW0b nuW0b cuW0b) := by rw [hWf]; simp [go_sem, n_0, n_1]
          have f4 : Own oAn v5.heap.size v6.heap.size Wf [.slice buW0 nuW0 cuW0, .slice buW0b nuW0b cuW0b] (evalM x0 x1 x2) := by rw [hWf]; exact Own.setOff (Own.setOff W0 rfl (by simp only []; omega)) rfl (by simp only []; omega)
          obtain ⟨BB, hBB⟩ : ∃ B, B = v6.heap.size := ⟨_, rfl⟩
          rw [← hBB] at f2 f3 ⊢
          have f5 : w4.heap.size ≤ BB ∧ BB < Wf.heap.size := by omega
          have f6 : w4.heap.size ≤ v5.heap.size ∧ v5.heap.size ≤ v6.heap.size ∧ v6.heap.size ≤ Wf.heap.size ∧ (BB < v5.heap.size ∨ v6.heap.size ≤ BB) := by omega
          have fin : ∃ lo hi, w4.heap.size ≤ lo ∧ lo ≤ hi ∧ hi ≤ Wf.heap.size ∧ (BB < lo ∨ hi ≤ BB) ∧ Own oAn lo hi Wf [.slice buW0 nuW0 cuW0, .slice buW0b nuW0b cuW0b] (evalM x0 x1 x2) := ⟨_, _, f6.1, f6.2.1, f6.2.2.1, f6.2.2.2, f4⟩
          clear f4 f6 hWf f1 hBB
          exact key BB Wf but0 nut0 cut0 but1 nut1 cut1 buW0 nuW0 cuW0 buW0b nuW0b cuW0b ⟨f0, f5.1, f5.2, ⟨f2, f3⟩, fin⟩
        · skip
          go_simp
          obtain ⟨v12, hwv12⟩ : ∃ W, W = v5.alloc (.cells #[.slice none 0 0, .slice none 0 0] 49) := ⟨_, rfl⟩
          have n_0 : v12.cell? ⟨v5.heap.size, 0, none⟩ = some (.slice none 0 0) := by rw [hwv12]; exact box_cell (Below.refl _ _) rfl
          have n_1 : v12.cell? ⟨v5.heap.size, 1, none⟩ = some (.slice none 0 0) := by rw [hwv12]; exact box_cell (Below.refl _ _) rfl
          have n_f0 : v12.frozen? ⟨v5.heap.size, 0, none⟩ = false := by rw [hwv12]; exact box_frozen (Below.refl _ _)
          have n_f1 : v12.frozen? ⟨v5.heap.size, 1, none⟩ = false := by rw [hwv12]; exact box_frozen (Below.refl _ _)
          have y12 : Below v5.heap.size v5 v12 := by rw [hwv12]; exact ((Below.refl _ _).alloc (Nat.le_refl _) _)
          have y12s : v5.heap.size < v12.heap.size := by rw [hwv12]; show _ < (v5.alloc _).heap.size; simp
          have gv12 := on gv5 y12
          have Sv12 := (⟨(y12.cell (p := ⟨w.heap.size, 0, none⟩) (by simp only []; omega)).trans Sv5.1, (y12.cell (p := ⟨w.heap.size + 1, 0, none⟩) (by simp only []; omega)).trans Sv5.2.1, (y12.cell (p := ⟨w.heap.size + 1, 1, none⟩) (by simp only []; omega)).trans Sv5.2.2⟩ : (fun W => W.cell? ⟨w.heap.size, 0, none⟩ = some (.slice bu0 nu0 cu0) ∧ W.cell? ⟨w.heap.size + 1, 0, none⟩ = some (.int .i64 x1.1) ∧ W.cell? ⟨w.heap.size + 1, 1, none⟩ = some (.slice bu1 nu1 cu1)) v12)
          have cv12 := on cv5 y12
          replace t0 := t0.below y12 (by omega)
          replace t1 := t1.below y12 (by omega)
          rw [← hwv12]
          clear hwv12
          refine hK.out _ _ ?_ (fun hHeld => ?_)
          · exact Sv12
          clear hK K
          try simp only [Act.put, List.setIfInBounds_toArray, List.set_cons_zero, List.set_cons_succ]
          refine wpAnyH_ready (rs := [5]) (by kernel_rfl) (by simp) ?_
          refine AllReadyH.cons rfl (fun K hK => ?_) AllReadyH.nil
          go_simp
          refine (eval_spec _ _ x0 x1 x2 _ (t0.rd reads_Db) (t1.rd reads_Q) h2).mono ?_
          rintro e v13 ⟨cW0, rfl, W0, y13⟩
          obtain ⟨buW0, nuW0, cuW0, buW0b, nuW0b, cuW0b, rfl⟩ := oAn_form W0
          have y13s := y13.size
          have gv13 := on gv12 y13
          have Sv13 := (⟨(y13.cell (p := ⟨w.heap.size, 0, none⟩) (by simp only []; omega)).trans Sv12.1, (y13.cell (p := ⟨w.heap.size + 1, 0, none⟩) (by simp only []; omega)).trans Sv12.2.1, (y13.cell (p := ⟨w.heap.size + 1, 1, none⟩) (by simp only []; omega)).trans Sv12.2.2⟩ : (fun W => W.cell? ⟨w.heap.size, 0, none⟩ = some (.slice bu0 nu0 cu0) ∧ W.cell? ⟨w.heap.size + 1, 0, none⟩ = some (.int .i64 x1.1) ∧ W.cell? ⟨w.heap.size + 1, 1, none⟩ = some (.slice bu1 nu1 cu1)) v13)
          have cv13 := on cv12 y13
          replace n_0 := (y13.cell (p := ⟨v5.heap.size, 0, none⟩) (by simp only []; omega)).trans n_0
          replace n_1 := (y13.cell (p := ⟨v5.heap.size, 1, none⟩) (by simp only []; omega)).trans n_1
          replace n_f0 := (y13.frozen (p := ⟨v5.heap.size, 0, none⟩) (by simp only []; omega)).trans n_f0
          replace n_f1 := (y13.frozen (p := ⟨v5.heap.size, 1, none⟩) (by simp only []; omega)).trans n_f1
          refine hK.out _ _ ?_ (fun hHeld => ?_)
          · exact Sv13
          clear hK K
          try simp only [Act.put, List.setIfInBounds_toArray, List.set_cons_zero, List.set_cons_succ]
          refine wpAnyH_take (i := 6) (v := ?v6_t14) rfl (by kernel_rfl) (by kernel_rfl) (by kernel_rfl) (fun _ _ _ h => h) (Or.inl ⟨by rfl, ?hy6_t14⟩) (by assumption) ?rest6_t14
          case hy6_t14 => intro w hSw; (try dsimp only at hSw); go_simp; (try with_reducible rfl)
          try simp only [Act.put, List.getElem_toArray, List.getElem_cons_succ, List.getElem_cons_zero, List.setIfInBounds_toArray, List.set_cons_zero, List.set_cons_succ]
          refine wpAnyH_take (i := 7) (v := ?v7_t15) rfl (by kernel_rfl) (by kernel_rfl) (by kernel_rfl) (fun _ _ _ h => h) (Or.inl ⟨by rfl, ?hy7_t15⟩) (by assumption) ?rest7_t15
          case hy7_t15 => intro w hSw; (try dsimp only at hSw); go_simp; (try with_reducible rfl)
          try simp only [Act.put, List.getElem_toArray, List.getElem_cons_succ, List.getElem_cons_zero, List.setIfInBounds_toArray, List.set_cons_zero, List.set_cons_succ]
          refine wpAnyH_take (i := 8) (v := ?v8_t16) rfl (by kernel_rfl) (by kernel_rfl) (by kernel_rfl) (fun _ _ _ h => h) (Or.inl ⟨by rfl, ?hy8_t16⟩) (by assumption) ?rest8_t16
          case hy8_t16 => intro w hSw; (try dsimp only at hSw); go_simp; (try with_reducible rfl)
          try simp only [Act.put, List.getElem_toArray, List.getElem_cons_succ, List.getElem_cons_zero, List.setIfInBounds_toArray, List.set_cons_zero, List.set_cons_succ]
          refine wpAnyH_ready (rs := [10]) (by kernel_rfl) (by simp) ?_
          refine AllReadyH.cons rfl (fun K hK => ?_) AllReadyH.nil
          go_simp
          refine hK.out _ _ ?_ (fun hHeld => ?_)
          · exact ⟨cell_set (cell_set Sv13.1 (by simp only []; omega)) (by simp only []; omega), cell_set (cell_set Sv13.2.1 (by simp only []; omega)) (by simp only []; omega), cell_set (cell_set Sv13.2.2 (by simp only []; omega)) (by simp only []; omega)⟩
          clear hK K
          try simp only [Act.put, List.setIfInBounds_toArray, List.set_cons_zero, List.set_cons_succ]
          refine wpAnyH_take (i := 11) (v := ?v11_t17) rfl (by kernel_rfl) (by kernel_rfl) (by kernel_rfl) (fun _ _ _ h => h) (Or.inl ⟨by rfl, ?hy11_t17⟩) (by assumption) ?rest11_t17
          case hy11_t17 => intro w hSw; (try dsimp only at hSw); go_simp; (try with_reducible rfl)
          try simp only [Act.put, List.getElem_toArray, List.getElem_cons_succ, List.getElem_cons_zero, List.setIfInBounds_toArray, List.set_cons_zero, List.set_cons_succ]
          refine wpAnyH_done (by kernel_rfl) ?_ _
          refine NoPanic.normal ?_
          obtain ⟨Wf, hWf⟩ : ∃ W, W = (v13.setCell ⟨v5.heap.size, 0, none⟩ (.slice buW0 nuW0 cuW0)).setCell ⟨v5.heap.size, 1, none⟩ (.slice buW0b nuW0b cuW0b) := ⟨_, rfl⟩
          rw [← hWf]
          have f0 : Below w4.heap.size w4 Wf := by rw [hWf]; exact (cv13.setCell (by simp only []; omega) _).setCell (by simp only []; omega) _
          have f1 : v13.heap.size = Wf.heap.size := by rw [hWf]; simp [World.setCell]
          have f2 : Wf.cell? ⟨v5.heap.size, 0, none⟩ = some (.slice buW0 nuW0 cuW0) := by rw [hWf]; simp [go_sem, n_0, n_1]
          have f3 : Wf.cell? ⟨v5.heap.size, 1, none⟩ = some (.slice buW0b nuW0b cuW0b) := by rw [hWf]; simp [go_sem, n_0, n_1]
          have f4 : Own oAn v12.heap.size v13.heap.size Wf [.slice buW0 nuW0 cuW0, .slice buW0b nuW0b cuW0b] (evalM x0 x1 x2) := by rw [hWf]; exact Own.setOff (Own.setOff W0 rfl (by simp only []; omega)) rfl (by simp only []; omega)
          obtain ⟨BB, hBB⟩ : ∃ B, B = v5.heap.size := ⟨_, rfl⟩
          rw [← hBB] at f2 f3 ⊢
          have f5 : w4.heap.size ≤ BB ∧ BB < Wf.heap.size := by omega
          have f6 : w4.heap.size ≤ v12.heap.size ∧ v12.heap.size ≤ v13.heap.size ∧ v13.heap.size ≤ Wf.heap.size ∧ (BB < v12.heap.size ∨ v13.heap.size ≤ BB) := by omega
          have fin : ∃ lo hi, w4.heap.size ≤ lo ∧ lo ≤ hi ∧ hi ≤ Wf.heap.size ∧ (BB < lo ∨ hi ≤ BB) ∧ Own oAn lo hi Wf [.slice buW0 nuW0 cuW0, .slice buW0b nuW0b cuW0b] (evalM x0 x1 x2) := ⟨_, _, f6.1, f6.2.1, f6.2.2.1, f6.2.2.2, f4⟩
          clear f4 f6 hWf f1 hBB
          exact key BB Wf but0 nut0 cut0 but1 nut1 cut1 buW0 nuW0 cuW0 buW0b nuW0b cuW0b ⟨f0, f5.1, f5.2, ⟨f2, f3⟩, fin⟩
      · skip
        go_simp
        obtain ⟨v18, hwv18⟩ : ∃ W, W = v4.alloc (.cells #[.slice none 0 0, .slice none 0 0] 49) := ⟨_, rfl⟩
        have n_0 : v18.cell? ⟨v4.heap.size, 0, none⟩ = some (.slice none 0 0) := by rw [hwv18]; exact box_cell (Below.refl _ _) rfl
        have n_1 : v18.cell? ⟨v4.heap.size, 1, none⟩ = some (.slice none 0 0) := by rw [hwv18]; exact box_cell (Below.refl _ _) rfl
        have n_f0 : v18.frozen? ⟨v4.heap.size, 0, none⟩ = false := by rw [hwv18]; exact box_frozen (Below.refl _ _)
        have n_f1 : v18.frozen? ⟨v4.heap.size, 1, none⟩ = false := by rw [hwv18]; exact box_frozen (Below.refl _ _)
        have y18 : Below v4.heap.size v4 v18 := by rw [hwv18]; exact ((Below.refl _ _).alloc (Nat.le_refl _) _)
        have y18s : v4.heap.size < v18.heap.size := by rw [hwv18]; show _ < (v4.alloc _).heap.size; simp
        have gv18 := on gv4 y18
        have Sv18 := (⟨(y18.cell (p := ⟨w.heap.size, 0, none⟩) (by simp only []; omega)).trans Sv4.1, (y18.cell (p := ⟨w.heap.size + 1, 0, none⟩) (by simp only []; omega)).trans Sv4.2.1, (y18.cell (p := ⟨w.heap.size + 1, 1, none⟩) (by simp only []; omega)).trans Sv4.2.2⟩ : (fun W => W.cell? ⟨w.heap.size, 0, none⟩ = some (.slice bu0 nu0 cu0) ∧ W.cell? ⟨w.heap.size + 1, 0, none⟩ = some (.int .i64 x1.1) ∧ W.cell? ⟨w.heap.size + 1, 1, none⟩ = some (.slice bu1 nu1 cu1)) v18)
        have cv18 := on y4 y18
        replace t0 := t0.below y18 (by omega)
        rw [← hwv18]
        clear hwv18
        refine hK.out _ _ ?_ (fun hHeld => ?_)
        · exact Sv18
        clear hK K
        try simp only [Act.put, List.setIfInBounds_toArray, List.set_cons_zero, List.set_cons_succ]
        refine wpAnyH_ready (rs := [3]) (by kernel_rfl) (by simp) ?_
        refine AllReadyH.cons rfl (fun K hK => ?_) AllReadyH.nil
        go_simp
        refine (to_Q _ x1 _ (rQ.mono h1 (gv18)) (by omega)).mono ?_
        rintro e v19 ⟨ct1, rfl, t1, y19⟩
        obtain ⟨but1, nut1, cut1, rfl⟩ := oQ_form t1
        have y19s := y19.size
        have gv19 := on gv18 y19
        have Sv19 := (⟨(y19.cell (p := ⟨w.heap.size, 0, none⟩) (by simp only []; omega)).trans Sv18.1, (y19.cell (p := ⟨w.heap.size + 1, 0, none⟩) (by simp only []; omega)).trans Sv18.2.1, (y19.cell (p := ⟨w.heap.size + 1, 1, none⟩) (by simp only []; omega)).trans Sv18.2.2⟩ : (fun W => W.cell? ⟨w.heap.size, 0, none⟩ = some (.slice bu0 nu0 cu0) ∧ W.cell? ⟨w.heap.size + 1, 0, none⟩ = some (.int .i64 x1.1) ∧ W.cell? ⟨w.heap.size + 1, 1, none⟩ = some (.slice bu1 nu1 cu1)) v19)
        have cv19 := on cv18 y19
        replace t0 := t0.below y19 (by omega)
        replace n_0 := (y19.cell (p := ⟨v4.heap.size, 0, none⟩) (by simp only []; omega)).trans n_0
        replace n_1 := (y19.cell (p := ⟨v4.heap.size, 1, none⟩) (by simp only []; omega)).trans n_1
        replace n_f0 := (y19.frozen (p := ⟨v4.heap.size, 0, none⟩) (by simp only []; omega)).trans n_f0
        replace n_f1 := (y19.frozen (p := ⟨v4.heap.size, 1, none⟩) (by simp only []; omega)).trans n_f1
        refine hK.out _ _ ?_ (fun hHeld => ?_)
        · exact Sv19
        clear hK K
        try simp only [Act.put, List.setIfInBounds_toArray, List.set_cons_zero, List.set_cons_succ]
        refine wpAnyH_ready (rs := [5]) (by kernel_rfl) (by simp) ?_
        refine AllReadyH.cons rfl (fun K hK => ?_) AllReadyH.nil
        go_simp
        refine (eval_spec _ _ x0 x1 x2 _ (t0.rd reads_Db) (t1.rd reads_Q) h2).mono ?_
        rintro e v20 ⟨cW0, rfl, W0, y20⟩
        obtain ⟨buW0, nuW0, cuW0, buW0b, nuW0b, cuW0b, rfl⟩ := oAn_form W0
        have y20s := y20.size
        have gv20 := on gv19 y20
        have Sv20 := (⟨(y20.cell (p := ⟨w.heap.size, 0, none⟩) (by simp only []; omega)).trans Sv19.1, (y20.cell (p := ⟨w.heap.size + 1, 0, none⟩) (by simp only []; omega)).trans Sv19.2.1, (y20.cell (p := ⟨w.heap.size + 1, 1, none⟩) (by simp only []; omega)).trans Sv19.2.2⟩ : (fun W => W.cell? ⟨w.heap.size, 0, none⟩ = some (.slice bu0 nu0 cu0) ∧ W.cell? ⟨w.heap.size + 1, 0, none⟩ = some (.int .i64 x1.1) ∧ W.cell? ⟨w.heap.size + 1, 1, none⟩ = some (.slice bu1 nu1 cu1)) v20)
        have cv20 := on cv19 y20
        replace n_0 := (y20.cell (p := ⟨v4.heap.size, 0, none⟩) (by simp only []; omega)).trans n_0
        replace n_1 := (y20.cell (p := ⟨v4.heap.size, 1, none⟩) (by simp only []; omega)).trans n_1
        replace n_f0 := (y20.frozen (p := ⟨v4.heap.size, 0, none⟩) (by simp only []; omega)).trans n_f0
        replace n_f1 := (y20.frozen (p := ⟨v4.heap.size, 1, none⟩) (by simp only []; omega)).trans n_f1
        refine hK.out _ _ ?_ (fun hHeld => ?_)
        · exact Sv20
        clear hK K
        try simp only [Act.put, List.setIfInBounds_toArray, List.set_cons_zero, List.set_cons_succ]
        refine wpAnyH_take (i := 6) (v := ?v6_t21) rfl (by kernel_rfl) (by kernel_rfl) (by kernel_rfl) (fun _ _ _ h => h) (Or.inl ⟨by rfl, ?hy6_t21⟩) (by assumption) ?rest6_t21
        case hy6_t21 => intro w hSw; (try dsimp only at hSw); go_simp; (try with_reducible rfl)
        try simp only [Act.put, List.getElem_toArray, List.getElem_cons_succ, List.getElem_cons_zero, List.setIfInBounds_toArray, List.set_cons_zero, List.set_cons_succ]
        refine wpAnyH_take (i := 7) (v := ?v7_t22) rfl (by kernel_rfl) (by kernel_rfl) (by kernel_rfl) (fun _ _ _ h => h) (Or.inl ⟨by rfl, ?hy7_t22⟩) (by assumption) ?rest7_t22
        case hy7_t22 => intro w hSw; (try dsimp only at hSw); go_simp; (try with_reducible rfl)
        try simp only [Act.put, List.getElem_toArray, List.getElem_cons_succ, List.getElem_cons_zero, List.setIfInBounds_toArray, List.set_cons_zero, List.set_cons_succ]
        refine wpAnyH_take (i := 8) (v := ?v8_t23) rfl (by kernel_rfl) (by kernel_rfl) (by kernel_rfl) (fun _ _ _ h => h) (Or.inl ⟨by rfl, ?hy8_t23⟩) (by assumption) ?rest8_t23
        case hy8_t23 => intro w hSw; (try dsimp only at hSw); go_simp; (try with_reducible rfl)
        try simp only [Act.put, List.getElem_toArray, List.getElem_cons_succ, List.getElem_cons_zero, List.setIfInBounds_toArray, List.set_cons_zero, List.set_cons_succ]
        refine wpAnyH_ready (rs := [10]) (by kernel_rfl) (by simp) ?_
        refine AllReadyH.cons rfl (fun K hK => ?_) AllReadyH.nil
        go_simp
        refine hK.out _ _ ?_ (fun hHeld => ?_)
        · exact ⟨cell_set (cell_set Sv20.1 (by simp only []; omega)) (by simp only []; omega), cell_set (cell_set Sv20.2.1 (by simp only []; omega)) (by simp only []; omega), cell_set (cell_set Sv20.2.2 (by simp only []; omega)) (by simp only []; omega)⟩
        clear hK K
        try simp only [Act.put, List.setIfInBounds_toArray, List.set_cons_zero, List.set_cons_succ]
        refine wpAnyH_take (i := 11) (v := ?v11_t24) rfl (by kernel_rfl) (by kernel_rfl) (by kernel_rfl) (fun _ _ _ h => h) (Or.inl ⟨by rfl, ?hy11_t24⟩) (by assumption) ?rest11_t24
        case hy11_t24 => intro w hSw; (try dsimp only at hSw); go_simp; (try with_reducible rfl)
        try simp only [Act.put, List.getElem_toArray, List.getElem_cons_succ, List.getElem_cons_zero, List.setIfInBounds_toArray, List.set_cons_zero, List.set_cons_succ]
        refine wpAnyH_done (by kernel_rfl) ?_ _
        refine NoPanic.normal ?_
        obtain ⟨Wf, hWf⟩ : ∃ W, W = (v20.setCell ⟨v4.heap.size, 0, none⟩ (.slice buW0 nuW0 cuW0)).setCell ⟨v4.heap.size, 1, none⟩ (.slice buW0b nuW0b cuW0b) := ⟨_, rfl⟩
        rw [← hWf]
        have f0 : Below w4.heap.size w4 Wf := by rw [hWf]; exact (cv20.setCell (by simp only []; omega) _).setCell (by simp only []; omega) _
        have f1 : v20.heap.size = Wf.heap.size := by rw [hWf]; simp [World.setCell]
        have f2 : Wf.cell? ⟨v4.heap.size, 0, none⟩ = some (.slice buW0 nuW0 cuW0) := by rw [hWf]; simp [go_sem, n_0, n_1]
        have f3 : Wf.cell? ⟨v4.heap.size, 1, none⟩ = some (.slice buW0b nuW0b cuW0b) := by rw [hWf]; simp [go_sem, n_0, n_1]
        have f4 : Own oAn v19.heap.size v20.heap.size Wf [.slice buW0 nuW0 cuW0, .slice buW0b nuW0b cuW0b] (evalM x0 x1 x2) := by rw [hWf]; exact Own.setOff (Own.setOff W0 rfl (by simp only []; omega)) rfl (by simp only []; omega)
        obtain ⟨BB, hBB⟩ : ∃ B, B = v4.heap.size := ⟨_, rfl⟩
        rw [← hBB] at f2 f3 ⊢
        have f5 : w4.heap.size ≤ BB ∧ BB < Wf.heap.size := by omega
        have f6 : w4.heap.size ≤ v19.heap.size ∧ v19.heap.size ≤ v20.heap.size ∧ v20.heap.size ≤ Wf.heap.size ∧ (BB < v19.heap.size ∨ v20.heap.size ≤ BB) := by omega
        have fin : ∃ lo hi, w4.heap.size ≤ lo ∧ lo ≤ hi ∧ hi ≤ Wf.heap.size ∧ (BB < lo ∨ hi ≤ BB) ∧ Own oAn lo hi Wf [.slice buW0 nuW0 cuW0, .slice buW0b nuW0b cuW0b] (evalM x0 x1 x2) := ⟨_, _, f6.1, f6.2.1, f6.2.2.1, f6.2.2.2, f4⟩
        clear f4 f6 hWf f1 hBB
        exact key BB Wf but0 nut0 cut0 but1 nut1 cut1 buW0 nuW0 cuW0 buW0b nuW0b cuW0b ⟨f0, f5.1, f5.2, ⟨f2, f3⟩, fin⟩
    · skip
      go_simp
      obtain ⟨v25, hwv25⟩ : ∃ W, W = (w4.alloc (.cells #[.slice none 0 0, .slice none 0 0] 49)).drew := ⟨_, rfl⟩
      have n_0 : v25.cell? ⟨w4.heap.size, 0, none⟩ = some (.slice none 0 0) := by rw [hwv25]; exact box_cell (Below.refl _ _).drew rfl
      have n_1 : v25.cell? ⟨w4.heap.size, 1, none⟩ = some (.slice none 0 0) := by rw [hwv25]; exact box_cell (Below.refl _ _).drew rfl
      have n_f0 : v25.frozen? ⟨w4.heap.size, 0, none⟩ = false := by rw [hwv25]; exact box_frozen (Below.refl _ _).drew
      have n_f1 : v25.frozen? ⟨w4.heap.size, 1, none⟩ = false := by rw [hwv25]; exact box_frozen (Below.refl _ _).drew
      have y25 : Below w4.heap.size w4 v25 := by rw [hwv25]; exact ((Below.refl _ _).alloc (Nat.le_refl _) _).drew
      have y25s : w4.heap.size < v25.heap.size := by rw [hwv25]; show _ < (w4.alloc _).heap.size; simp
      have gv25 := on hb4 y25
      have Sv25 := (⟨(y25.cell (p := ⟨w.heap.size, 0, none⟩) (by simp only []; omega)).trans bp0_0, (y25.cell (p := ⟨w.heap.size + 1, 0, none⟩) (by simp only []; omega)).trans bp1_0, (y25.cell (p := ⟨w.heap.size + 1, 1, none⟩) (by simp only []; omega)).trans bp1_1⟩ : (fun W => W.cell? ⟨w.heap.size, 0, none⟩ = some (.slice bu0 nu0 cu0) ∧ W.cell? ⟨w.heap.size + 1, 0, none⟩ = some (.int .i64 x1.1) ∧ W.cell? ⟨w.heap.size + 1, 1, none⟩ = some (.slice bu1 nu1 cu1)) v25)
      rw [← hwv25]
      clear hwv25
      refine hK.out _ _ ?_ (fun hHeld => ?_)
      · exact Sv25
      clear hK K
      try simp only [Act.put, List.setIfInBounds_toArray, List.set_cons_zero, List.set_cons_succ]
      refine wpAnyH_ready (rs := [1]) (by kernel_rfl) (by simp) ?_
      refine AllReadyH.cons rfl (fun K hK => ?_) AllReadyH.nil
      go_simp
      refine (to_Db _ x0 _ (rDb.mono h0 (gv25)) (by omega)).mono ?_
      rintro e v26 ⟨ct0, rfl, t0, y26⟩
      obtain ⟨but0, nut0, cut0, rfl⟩ := oDb_form t0
      have y26s := y26.size
      have gv26 := on gv25 y26
      have Sv26 := (⟨(y26.cell (p := ⟨w.heap.size, 0, none⟩) (by simp only []; omega)).trans Sv25.1, (y26.cell (p := ⟨w.heap.size + 1, 0, none⟩) (by simp only []; omega)).trans Sv25.2.1, (y26.cell (p := ⟨w.heap.size + 1, 1, none⟩) (by simp only []; omega)).trans Sv25.2.2⟩ : (fun W => W.cell? ⟨w.heap.size, 0, none⟩ = some (.slice bu0 nu0 cu0) ∧ W.cell? ⟨w.heap.size + 1, 0, none⟩ = some (.int .i64 x1.1) ∧ W.cell? ⟨w.heap.size + 1, 1, none⟩ = some (.slice bu1 nu1 cu1)) v26)
      have cv26 := on y25 y26
      replace n_0 := (y26.cell (p := ⟨w4.heap.size, 0, none⟩) (by simp only []; omega)).trans n_0
      replace n_1 := (y26.cell (p := ⟨w4.heap.size, 1, none⟩) (by simp only []; omega)).trans n_1
      replace n_f0 := (y26.frozen (p := ⟨w4.heap.size, 0, none⟩) (by simp only []; omega)).trans n_f0
      replace n_f1 := (y26.frozen (p := ⟨w4.heap.size, 1, none⟩) (by simp only []; omega)).trans n_f1
      refine hK.out _ _ ?_ (fun hHeld => ?_)
      · exact Sv26
      clear hK K
      try simp only [Act.put, List.setIfInBounds_toArray, List.set_cons_zero, List.set_cons_succ]
      refine wpAnyH_ready (rs := [3]) (by kernel_rfl) (by simp) ?_
      refine AllReadyH.cons rfl (fun K hK => ?_) AllReadyH.nil
      go_simp
      refine (to_Q _ x1 _ (rQ.mono h1 (gv26)) (by omega)).mono ?_
      rintro e v27 ⟨ct1, rfl, t1, y27⟩
      obtain ⟨but1, nut1, cut1, rfl⟩ := oQ_form t1
      have y27s := y27.size
      have gv27 := on gv26 y27
      have Sv27 := (⟨(y27.cell (p := ⟨w.heap.size, 0, none⟩) (by simp only []; omega)).trans Sv26.1, (y27.cell (p := ⟨w.heap.size + 1, 0, none⟩) (by simp only []; omega)).trans Sv26.2.1, (y27.cell (p := ⟨w.heap.size + 1, 1, none⟩) (by simp only []; omega)).trans Sv26.2.2⟩ : (fun W => W.cell? ⟨w.heap.size, 0, none⟩ = some (.slice bu0 nu0 cu0) ∧ W.cell? ⟨w.heap.size + 1, 0, none⟩ = some (.int .i64 x1.1) ∧ W.cell? ⟨w.heap.size + 1, 1, none⟩ = some (.slice bu1 nu1 cu1)) v27)
      have cv27 := on cv26 y27
      replace t0 := t0.below y27 (by omega)
      replace n_0 := (y27.cell (p := ⟨w4.heap.size, 0, none⟩) (by simp only []; omega)).trans n_0
      replace n_1 := (y27.cell (p := ⟨w4.heap.size, 1, none⟩) (by simp only []; omega)).trans n_1
      replace n_f0 := (y27.frozen (p := ⟨w4.heap.size, 0, none⟩) (by simp only []; omega)).trans n_f0
      replace n_f1 := (y27.frozen (p := ⟨w4.heap.size, 1, none⟩) (by simp only []; omega)).trans n_f1
      refine hK.out _ _ ?_ (fun hHeld => ?_)
      · exact Sv27
      clear hK K
      try simp only [Act.put, List.setIfInBounds_toArray, List.set_cons_zero, List.set_cons_succ]
      refine wpAnyH_ready (rs := [5]) (by kernel_rfl) (by simp) ?_
      refine AllReadyH.cons rfl (fun K hK => ?_) AllReadyH.nil
      go_simp
      refine (eval_spec _ _ x0 x1 x2 _ (t0.rd reads_Db) (t1.rd reads_Q) h2).mono ?_
      rintro e v28 ⟨cW0, rfl, W0, y28⟩
      obtain ⟨buW0, nuW0, cuW0, buW0b, nuW0b, cuW0b, rfl⟩ := oAn_form W0
      have y28s := y28.size
      have gv28 := on gv27 y28
      have Sv28 := (⟨(y28.cell (p := ⟨w.heap.size, 0, none⟩) (by simp only []; omega)).trans Sv27.1, (y28.cell (p := ⟨w.heap.size + 1, 0, none⟩) (by simp only []; omega)).trans Sv27.2.1, (y28.cell (p := ⟨w.heap.size + 1, 1, none⟩) (by simp only []; omega)).trans Sv27.2.2⟩ : (fun W => W.cell? ⟨w.heap.size, 0, none⟩ = some (.slice bu0 nu0 cu0) ∧ W.cell? ⟨w.heap.size + 1, 0, none⟩ = some (.int .i64 x1.1) ∧ W.cell? ⟨w.heap.size + 1, 1, none⟩ = some (.slice bu1 nu1 cu1)) v28)
      have cv28 := on cv27 y28
      replace n_0 := (y28.cell (p := ⟨w4.heap.size, 0, none⟩) (by simp only []; omega)).trans n_0
      replace n_1 := (y28.cell (p := ⟨w4.heap.size, 1, none⟩) (by simp only []; omega)).trans n_1
      replace n_f0 := (y28.frozen (p := ⟨w4.heap.size, 0, none⟩) (by simp only []; omega)).trans n_f0
      replace n_f1 := (y28.frozen (p := ⟨w4.heap.size, 1, none⟩) (by simp only []; omega)).trans n_f1
      refine hK.out _ _ ?_ (fun hHeld => ?_)
      · exact Sv28
      clear hK K
      try simp only [Act.put, List.setIfInBounds_toArray, List.set_cons_zero, List.set_cons_succ]
      refine wpAnyH_take (i := 6) (v := ?v6_t29) rfl (by kernel_rfl) (by kernel_rfl) (by kernel_rfl) (fun _ _ _ h => h) (Or.inl ⟨by rfl, ?hy6_t29⟩) (by assumption) ?rest6_t29
      case hy6_t29 => intro w hSw; (try dsimp only at hSw); go_simp; (try with_reducible rfl)
      try simp only [Act.put, List.getElem_toArray, List.getElem_cons_succ, List.getElem_cons_zero, List.setIfInBounds_toArray, List.set_cons_zero, List.set_cons_succ]
      refine wpAnyH_take (i := 7) (v := ?v7_t30) rfl (by kernel_rfl) (by kernel_rfl) (by kernel_rfl) (fun _ _ _ h => h) (Or.inl ⟨by rfl, ?hy7_t30⟩) (by assumption) ?rest7_t30
      case hy7_t30 => intro w hSw; (try dsimp only at hSw); go_simp; (try with_reducible rfl)
      try simp only [Act.put, List.getElem_toArray, List.getElem_cons_succ, List.getElem_cons_zero, List.setIfInBounds_toArray, List.set_cons_zero, List.set_cons_succ]
      refine wpAnyH_take (i := 8) (v := ?v8_t31) rfl (by kernel_rfl) (by kernel_rfl) (by kernel_rfl) (fun _ _ _ h => h) (Or.inl ⟨by rfl, ?hy8_t31⟩) (by assumption) ?rest8_t31
      case hy8_t31 => intro w hSw; (try dsimp only at hSw); go_simp; (try with_reducible rfl)
      try simp only [Act.put, List.getElem_toArray, List.getElem_cons_succ, List.getElem_cons_zero, List.setIfInBounds_toArray, List.set_cons_zero, List.set_cons_succ]
      refine wpAnyH_ready (rs := [10]) (by kernel_rfl) (by simp) ?_
      refine AllReadyH.cons rfl (fun K hK => ?_) AllReadyH.nil
      go_simp
      refine hK.out _ _ ?_ (fun hHeld => ?_)
      · exact ⟨cell_set (cell_set Sv28.1 (by simp only []; omega)) (by simp only []; omega), cell_set (cell_set Sv28.2.1 (by simp only []; omega)) (by simp only []; omega), cell_set (cell_set Sv28.2.2 (by simp only []; omega)) (by simp only []; omega)⟩
      clear hK K
      try simp only [Act.put, List.setIfInBounds_toArray, List.set_cons_zero, List.set_cons_succ]
      refine wpAnyH_take (i := 11) (v := ?v11_t32) rfl (by kernel_rfl) (by kernel_rfl) (by kernel_rfl) (fun _ _ _ h => h) (Or.inl ⟨by rfl, ?hy11_t32⟩) (by assumption) ?rest11_t32
      case hy11_t32 => intro w hSw; (try dsimp only at hSw); go_simp; (try with_reducible rfl)
      try simp only [Act.put, List.getElem_toArray, List.getElem_cons_succ, List.getElem_cons_zero, List.setIfInBounds_toArray, List.set_cons_zero, List.set_cons_succ]
      refine wpAnyH_done (by kernel_rfl) ?_ _
      refine NoPanic.normal ?_
      obtain ⟨Wf, hWf⟩ : ∃ W, W = (v28.setCell ⟨w4.heap.size, 0, none⟩ (.slice buW0 nuW0 cuW0)).setCell ⟨w4.heap.size, 1, none⟩ (.slice buW0b nuW0b cuW0b) := ⟨_, rfl⟩
      rw [← hWf]
      have f0 : Below w4.heap.size w4 Wf := by rw [hWf]; exact (cv28.setCell (by simp only []; omega) _).setCell (by simp only []; omega) _
      have f1 : v28.heap.size = Wf.heap.size := by rw [hWf]; simp [World.setCell]
      have f2 : Wf.cell? ⟨w4.heap.size, 0, none⟩ = some (.slice buW0 nuW0 cuW0) := by rw [hWf]; simp [go_sem, n_0, n_1]
      have f3 : Wf.cell? ⟨w4.heap.size, 1, none⟩ = some (.slice buW0b nuW0b cuW0b) := by rw [hWf]; simp [go_sem, n_0, n_1]
      have f4 : Own oAn v27.heap.size v28.heap.size Wf [.slice buW0 nuW0 cuW0, .slice buW0b nuW0b cuW0b] (evalM x0 x1 x2) := by rw [hWf]; exact Own.setOff (Own.setOff W0 rfl (by simp only []; omega)) rfl (by simp only []; omega)
      obtain ⟨BB, hBB⟩ : ∃ B, B = w4.heap.size := ⟨_, rfl⟩
      rw [← hBB] at f2 f3 ⊢
      have f5 : w4.heap.size ≤ BB ∧ BB < Wf.heap.size := by omega
      have f6 : w4.heap.size ≤ v27.heap.size ∧ v27.heap.size ≤ v28.heap.size ∧ v28.heap.size ≤ Wf.heap.size ∧ (BB < v27.heap.size ∨ v28.heap.size ≤ BB) := by omega
      have fin : ∃ lo hi, w4.heap.size ≤ lo ∧ lo ≤ hi ∧ hi ≤ Wf.heap.size ∧ (BB < lo ∨ hi ≤ BB) ∧ Own oAn lo hi Wf [.slice buW0 nuW0 cuW0, .slice buW0b nuW0b cuW0b] (evalM x0 x1 x2) := ⟨_, _, f6.1, f6.2.1, f6.2.2.1, f6.2.2.2, f4⟩
      clear f4 f6 hWf f1 hBB
      exact key BB Wf but0 nut0 cut0 but1 nut1 cut1 buW0 nuW0 cuW0 buW0b nuW0b cuW0b ⟨f0, f5.1, f5.2, ⟨f2, f3⟩, fin⟩
  intro BW0 w5 but0 nut0 cut0 but1 nut1 cut1 buW0 nuW0 cuW0 buW0b nuW0b cuW0b hF
  obtain ⟨z5, BW0q, BW0r, ⟨bW0_0, bW0_1⟩, loW0, hiW0, BW0a, BW0b, BW0c, BW0d, W0⟩ := hF
  have s5 := z5.size
  have hb5 := on hb4 z5
  replace bp0_0 := (z5.cell (p := ⟨w.heap.size, 0, none⟩) (by simp only []; omega)).trans bp0_0
  replace bp1_0 := (z5.cell (p := ⟨w.heap.size + 1, 0, none⟩) (by simp only []; omega)).trans bp1_0
  replace bp1_1 := (z5.cell (p := ⟨w.heap.size + 1, 1, none⟩) (by simp only []; omega)).trans bp1_1
  go_wp2_with fail
  refine (to_Db _ _ _ (rDb.mono h0 hb5) (by omega)).mono ?_
  rintro e w6 ⟨cy0, rfl, y0, z6⟩
  have s6 := z6.size
  have hb6 := on hb5 z6
  replace W0 := W0.below z6 (by omega)
  replace bp0_0 := (z6.cell (p := ⟨w.heap.size, 0, none⟩) (by simp only []; omega)).trans bp0_0
  replace bp1_0 := (z6.cell (p := ⟨w.heap.size + 1, 0, none⟩) (by simp only []; omega)).trans bp1_0
  replace bp1_1 := (z6.cell (p := ⟨w.heap.size + 1, 1, none⟩) (by simp only []; omega)).trans bp1_1
  replace bW0_0 := (z6.cell (p := ⟨BW0, 0, none⟩) (by simp only []; omega)).trans bW0_0
  replace bW0_1 := (z6.cell (p := ⟨BW0, 1, none⟩) (by simp only []; omega)).trans bW0_1
  obtain ⟨buy0, nuy0, cuy0, rfl⟩ := oDb_form y0
  obtain ⟨w7, hw7⟩ : ∃ W, W = w6.alloc (.cells #[.slice buy0 nuy0 cuy0] 34) := ⟨_, rfl⟩
  have z7 : Below w6.heap.size w6 w7 := by rw [hw7]; exact (Below.refl _ _).alloc (Nat.le_refl _) _
  have s7 : w7.heap.size = w6.heap.size + 1 := by rw [hw7]; simp
  have hb7 := on hb6 z7
  replace W0 := W0.below z7 (by omega)
  replace y0 := y0.below z7 (by omega)
  replace bp0_0 := (z7.cell (p := ⟨w.heap.size, 0, none⟩) (by simp only []; omega)).trans bp0_0
  replace bp1_0 := (z7.cell (p := ⟨w.heap.size + 1, 0, none⟩) (by simp only []; omega)).trans bp1_0
  replace bp1_1 := (z7.cell (p := ⟨w.heap.size + 1, 1, none⟩) (by simp only []; omega)).trans bp1_1
  replace bW0_0 := (z7.cell (p := ⟨BW0, 0, none⟩) (by simp only []; omega)).trans bW0_0
  replace bW0_1 := (z7.cell (p := ⟨BW0, 1, none⟩) (by simp only []; omega)).trans bW0_1
  have by0_0 : w7.cell? ⟨w6.heap.size, 0, none⟩ = some (.slice buy0 nuy0 cuy0) := by rw [hw7]; exact box_cell (Below.refl _ _) rfl
  have raw_bp0_0 := bp0_0
  rw [hw7] at raw_bp0_0
  have raw_bp1_0 := bp1_0
  rw [hw7] at raw_bp1_0
  have raw_bp1_1 := bp1_1
  rw [hw7] at raw_bp1_1
  have raw_bW0_0 := bW0_0
  rw [hw7] at raw_bW0_0
  have raw_bW0_1 := bW0_1
  rw [hw7] at raw_bW0_1
  have raw_by0_0 := by0_0
  rw [hw7] at raw_by0_0
  go_wp2_with fail
  rw [← hw7]
  clear hw7
  clear raw_bp0_0 raw_bp1_0 raw_bp1_1 raw_bW0_0 raw_bW0_1 raw_by0_0
  refine (to_Q _ _ _ (rQ.mono h1 hb7) (by omega)).mono ?_
  rintro e w8 ⟨cy1, rfl, y1, z8⟩
  have s8 := z8.size
  have hb8 := on hb7 z8
  replace W0 := W0.below z8 (by omega)
  replace y0 := y0.below z8 (by omega)
  replace bp0_0 := (z8.cell (p := ⟨w.heap.size, 0, none⟩) (by simp only []; omega)).trans bp0_0
  replace bp1_0 := (z8.cell (p := ⟨w.heap.size + 1, 0, none⟩) (by simp only []; omega)).trans bp1_0
  replace bp1_1 := (z8.cell (p := ⟨w.heap.size + 1, 1, none⟩) (by simp only []; omega)).trans bp1_1
  replace bW0_0 := (z8.cell (p := ⟨BW0, 0, none⟩) (by simp only []; omega)).trans bW0_0
  replace bW0_1 := (z8.cell (p := ⟨BW0, 1, none⟩) (by simp only []; omega)).trans bW0_1
  replace by0_0 := (z8.cell (p := ⟨w6.heap.size, 0, none⟩) (by simp only []; omega)).trans by0_0
  obtain ⟨buy1, nuy1, cuy1, rfl⟩ := oQ_form y1
  obtain ⟨w9, hw9⟩ : ∃ W, W = w8.alloc (.cells #[.int .i64 x1.1, .slice buy1 nuy1 cuy1] 38) := ⟨_, rfl⟩
  have z9 : Below w8.heap.size w8 w9 := by rw [hw9]; exact (Below.refl _ _).alloc (Nat.le_refl _) _
  have s9 : w9.heap.size = w8.heap.size + 1 := by rw [hw9]; simp
  have hb9 := on hb8 z9
  replace W0 := W0.below z9 (by omega)
  replace y0 := y0.below z9 (by omega)
  replace y1 := y1.below z9 (by omega)
  replace bp0_0 := (z9.cell (p := ⟨w.heap.size, 0, none⟩) (by simp only []; omega)).trans bp0_0
  replace bp1_0 := (z9.cell (p := ⟨w.heap.size + 1, 0, none⟩) (by simp only []; omega)).trans bp1_0
  replace bp1_1 := (z9.cell (p := ⟨w.heap.size + 1, 1, none⟩) (by simp only []; omega)).trans bp1_1
  replace bW0_0 := (z9.cell (p := ⟨BW0, 0, none⟩) (by simp only []; omega)).trans bW0_0
  replace bW0_1 := (z9.cell (p := ⟨BW0, 1, none⟩) (by simp only []; omega)).trans bW0_1
  replace by0_0 := (z9.cell (p := ⟨w6.heap.size, 0, none⟩) (by simp only []; omega)).trans by0_0
  have by1_0 : w9.cell? ⟨w8.heap.size, 0, none⟩ = some (.int .i64 x1.1) := by rw [hw9]; exact box_cell (Below.refl _ _) rfl
  have by1_1 : w9.cell? ⟨w8.heap.size, 1, none⟩ = some (.slice buy1 nuy1 cuy1) := by rw [hw9]; exact box_cell (Below.refl _ _) rfl
  have raw_bp0_0 := bp0_0
  rw [hw9] at raw_bp0_0
  have raw_bp1_0 := bp1_0
  rw [hw9] at raw_bp1_0
  have raw_bp1_1 := bp1_1
  rw [hw9] at raw_bp1_1
  have raw_bW0_0 := bW0_0
  rw [hw9] at raw_bW0_0
  have raw_bW0_1 := bW0_1
  rw [hw9] at raw_bW0_1
  have raw_by0_0 := by0_0
  rw [hw9] at raw_by0_0
  have raw_by1_0 := by1_0
  rw [hw9] at raw_by1_0
  have raw_by1_1 := by1_1
  rw [hw9] at raw_by1_1
  go_wp2_with fail
  rw [← hw9]
  clear hw9
  clear raw_bp0_0 raw_bp1_0 raw_bp1_1 raw_bW0_0 raw_bW0_1 raw_by0_0 raw_by1_0 raw_by1_1
  refine (eval_impl _ _ x0 x1 x2 _ (y0.rd reads_Db) (y1.rd reads_Q) h2).mono ?_
  rintro e w10 ⟨cG0, rfl, G0, z10⟩
  have s10 := z10.size
  have hb10 := on hb9 z10
  replace W0 := W0.below z10 (by omega)
  replace y0 := y0.below z10 (by omega)
  replace y1 := y1.below z10 (by omega)
  replace bp0_0 := (z10.cell (p := ⟨w.heap.size, 0, none⟩) (by simp only []; omega)).trans bp0_0
  replace bp1_0 := (z10.cell (p := ⟨w.heap.size + 1, 0, none⟩) (by simp only []; omega)).trans bp1_0
  replace bp1_1 := (z10.cell (p := ⟨w.heap.size + 1, 1, none⟩) (by simp only []; omega)).trans bp1_1
  replace bW0_0 := (z10.cell (p := ⟨BW0, 0, none⟩) (by simp only []; omega)).trans bW0_0
  replace bW0_1 := (z10.cell (p := ⟨BW0, 1, none⟩) (by simp only []; omega)).trans bW0_1
  replace by0_0 := (z10.cell (p := ⟨w6.heap.size, 0, none⟩) (by simp only []; omega)).trans by0_0
  replace by1_0 := (z10.cell (p := ⟨w8.heap.size, 0, none⟩) (by simp only []; omega)).trans by1_0
  replace by1_1 := (z10.cell (p := ⟨w8.heap.size, 1, none⟩) (by simp only []; omega)).trans by1_1
  obtain ⟨buG0, nuG0, cuG0, buG0b, nuG0b, cuG0b, rfl⟩ := oAn_form G0
  obtain ⟨w11, hw11⟩ : ∃ W, W = w10.alloc (.cells #[.slice buG0 nuG0 cuG0, .slice buG0b nuG0b cuG0b] 49) := ⟨_, rfl⟩
  have z11 : Below w10.heap.size w10 w11 := by rw [hw11]; exact (Below.refl _ _).alloc (Nat.le_refl _) _
  have s11 : w11.heap.size = w10.heap.size + 1 := by rw [hw11]; simp
  have hb11 := on hb10 z11
  replace W0 := W0.below z11 (by omega)
  replace y0 := y0.below z11 (by omega)
  replace y1 := y1.below z11 (by omega)
  replace G0 := G0.below z11 (by omega)
  replace bp0_0 := (z11.cell (p := ⟨w.heap.size, 0, none⟩) (by simp only []; omega)).trans bp0_0
  replace bp1_0 := (z11.cell (p := ⟨w.heap.size + 1, 0, none⟩) (by simp only []; omega)).trans bp1_0
  replace bp1_1 := (z11.cell (p := ⟨w.heap.size + 1, 1, none⟩) (by simp only []; omega)).trans bp1_1
  replace bW0_0 := (z11.cell (p := ⟨BW0, 0, none⟩) (by simp only []; omega)).trans bW0_0
  replace bW0_1 := (z11.cell (p := ⟨BW0, 1, none⟩) (by simp only []; omega)).trans bW0_1
  replace by0_0 := (z11.cell (p := ⟨w6.heap.size, 0, none⟩) (by simp only []; omega)).trans by0_0
  replace by1_0 := (z11.cell (p := ⟨w8.heap.size, 0, none⟩) (by simp only []; omega)).trans by1_0
  replace by1_1 := (z11.cell (p := ⟨w8.heap.size, 1, none⟩) (by simp only []; omega)).trans by1_1
  have bG0_0 : w11.cell? ⟨w10.heap.size, 0, none⟩ = some (.slice buG0 nuG0 cuG0) := by rw [hw11]; exact box_cell (Below.refl _ _) rfl
  have bG0_1 : w11.cell? ⟨w10.heap.size, 1, none⟩ = some (.slice buG0b nuG0b cuG0b) := by rw [hw11]; exact box_cell (Below.refl _ _) rfl
  have raw_bp0_0 := bp0_0
  rw [hw11] at raw_bp0_0
  have raw_bp1_0 := bp1_0
  rw [hw11] at raw_bp1_0
  have raw_bp1_1 := bp1_1
  rw [hw11] at raw_bp1_1
  have raw_bW0_0 := bW0_0
  rw [hw11] at raw_bW0_0
  have raw_bW0_1 := bW0_1
  rw [hw11] at raw_bW0_1
  have raw_by0_0 := by0_0
  rw [hw11] at raw_by0_0
  have raw_by1_0 := by1_0
  rw [hw11] at raw_by1_0
  have raw_by1_1 := by1_1
  rw [hw11] at raw_by1_1
  have raw_bG0_0 := bG0_0
  rw [hw11] at raw_bG0_0
  have raw_bG0_1 := bG0_1
  rw [hw11] at raw_bG0_1
  go_wp2_with fail
  rw [← hw11]
  clear hw11
  clear raw_bp0_0 raw_bp1_0 raw_bp1_1 raw_bW0_0 raw_bW0_1 raw_by0_0 raw_by1_0 raw_by1_1 raw_bG0_0 raw_bG0_1
  refine (eq_An _ _ _ _ _ (G0.rd reads_An) (W0.rd reads_An)).mono ?_
  rintro e w12 ⟨rfl, z12⟩
  have s12 := z12.size
  have hb12 := on hb11 z12
  replace W0 := W0.below z12 (by omega)
  replace y0 := y0.below z12 (by omega)
  replace y1 := y1.below z12 (by omega)
  replace G0 := G0.below z12 (by omega)
  replace bp0_0 := (z12.cell (p := ⟨w.heap.size, 0, none⟩) (by simp only []; omega)).trans bp0_0
  replace bp1_0 := (z12.cell (p := ⟨w.heap.size + 1, 0, none⟩) (by simp only []; omega)).trans bp1_0
  replace bp1_1 := (z12.cell (p := ⟨w.heap.size + 1, 1, none⟩) (by simp only []; omega)).trans bp1_1
  replace bW0_0 := (z12.cell (p := ⟨BW0, 0, none⟩) (by simp only []; omega)).trans bW0_0
  replace bW0_1 := (z12.cell (p := ⟨BW0, 1, none⟩) (by simp only []; omega)).trans bW0_1
  replace by0_0 := (z12.cell (p := ⟨w6.heap.size, 0, none⟩) (by simp only []; omega)).trans by0_0
  replace by1_0 := (z12.cell (p := ⟨w8.heap.size, 0, none⟩) (by simp only []; omega)).trans by1_0
  replace by1_1 := (z12.cell (p := ⟨w8.heap.size, 1, none⟩) (by simp only []; omega)).trans by1_1
  replace bG0_0 := (z12.cell (p := ⟨w10.heap.size, 0, none⟩) (by simp only []; omega)).trans bG0_0
  replace bG0_1 := (z12.cell (p := ⟨w10.heap.size, 1, none⟩) (by simp only []; omega)).trans bG0_1
  go_wp2_with fail
  go_region_held3 (fun W => W.cell? ⟨w6.heap.size, 0, none⟩ = some (.slice buy0 nuy0 cuy0) ∧ W.cell? ⟨w.heap.size, 0, none⟩ = some (.slice bu0 nu0 cu0)) (first | exact ⟨by0_0, bp0_0⟩ | assumption) (first | (go_at_call 10; refine (to_Db _ x0 _ (rDb.mono h0 hb12.drew) (by omega)).mono ?_; rintro e w13 ⟨du0, rfl, u0, z13⟩; replace z13 : Below w12.heap.size w12 w13 := (Below.refl _ _).drew.trans z13; have hS0 := (⟨(z13.cell (p := ⟨w6.heap.size, 0, none⟩) (by simp only []; omega)).trans by0_0, (z13.cell (p := ⟨w.heap.size, 0, none⟩) (by simp only []; omega)).trans bp0_0⟩ : (fun W => W.cell? ⟨w6.heap.size, 0, none⟩ = some (.slice buy0 nuy0 cuy0) ∧ W.cell? ⟨w.heap.size, 0, none⟩ = some (.slice bu0 nu0 cu0)) w13); obtain ⟨buu0, nuu0, cuu0, rfl⟩ := oDb_form u0; have y0' := y0.below z13 (by omega)) | (go_at_call 14; refine (eq_Db _ _ x0 x0 _ (y0'.rd reads_Db) (u0.rd reads_Db)).mono ?_; rintro e w14 ⟨rfl, z14⟩; have s13 := z13.size; have hT0 := (⟨(z14.cell (p := ⟨w6.heap.size, 0, none⟩) (by simp only []; omega)).trans hS0.1, (z14.cell (p := ⟨w.heap.size, 0, none⟩) (by simp only []; omega)).trans hS0.2⟩ : (fun W => W.cell? ⟨w6.heap.size, 0, none⟩ = some (.slice buy0 nuy0 cuy0) ∧ W.cell? ⟨w.heap.size, 0, none⟩ = some (.slice bu0 nu0 cu0)) w14)))
  replace z13 : Below w12.heap.size w12 w13 := z13
  clear u0 y0' hS0 hT0
  have t13 := z13.size
  have hb13 := on hb12 z13
  replace W0 := W0.below z13 (by omega)
  replace y0 := y0.below z13 (by omega)
  replace y1 := y1.below z13 (by omega)
  replace G0 := G0.below z13 (by omega)
  replace bp0_0 := (z13.cell (p := ⟨w.heap.size, 0, none⟩) (by simp only []; omega)).trans bp0_0
  replace bp1_0 := (z13.cell (p := ⟨w.heap.size + 1, 0, none⟩) (by simp only []; omega)).trans bp1_0
  replace bp1_1 := (z13.cell (p := ⟨w.heap.size + 1, 1, none⟩) (by simp only []; omega)).trans bp1_1
  replace bW0_0 := (z13.cell (p := ⟨BW0, 0, none⟩) (by simp only []; omega)).trans bW0_0
  replace bW0_1 := (z13.cell (p := ⟨BW0, 1, none⟩) (by simp only []; omega)).trans bW0_1
  replace by0_0 := (z13.cell (p := ⟨w6.heap.size, 0, none⟩) (by simp only []; omega)).trans by0_0
  replace by1_0 := (z13.cell (p := ⟨w8.heap.size, 0, none⟩) (by simp only []; omega)).trans by1_0
  replace by1_1 := (z13.cell (p := ⟨w8.heap.size, 1, none⟩) (by simp only []; omega)).trans by1_1
  replace bG0_0 := (z13.cell (p := ⟨w10.heap.size, 0, none⟩) (by simp only []; omega)).trans bG0_0
  replace bG0_1 := (z13.cell (p := ⟨w10.heap.size, 1, none⟩) (by simp only []; omega)).trans bG0_1
  have t14 := z14.size
  have hb14 := on hb13 z14
  replace W0 := W0.below z14 (by omega)
  replace y0 := y0.below z14 (by omega)
  replace y1 := y1.below z14 (by omega)
  replace G0 := G0.below z14 (by omega)
  replace bp0_0 := (z14.cell (p := ⟨w.heap.size, 0, none⟩) (by simp only []; omega)).trans bp0_0
  replace bp1_0 := (z14.cell (p := ⟨w.heap.size + 1, 0, none⟩) (by simp only []; omega)).trans bp1_0
  replace bp1_1 := (z14.cell (p := ⟨w.heap.size + 1, 1, none⟩) (by simp only []; omega)).trans bp1_1
  replace bW0_0 := (z14.cell (p := ⟨BW0, 0, none⟩) (by simp only []; omega)).trans bW0_0
  replace bW0_1 := (z14.cell (p := ⟨BW0, 1, none⟩) (by simp only []; omega)).trans bW0_1
  replace by0_0 := (z14.cell (p := ⟨w6.heap.size, 0, none⟩) (by simp only []; omega)).trans by0_0
  replace by1_0 := (z14.cell (p := ⟨w8.heap.size, 0, none⟩) (by simp only []; omega)).trans by1_0
  replace by1_1 := (z14.cell (p := ⟨w8.heap.size, 1, none⟩) (by simp only []; omega)).trans by1_1
  replace bG0_0 := (z14.cell (p := ⟨w10.heap.size, 0, none⟩) (by simp only []; omega)).trans bG0_0
  replace bG0_1 := (z14.cell (p := ⟨w10.heap.size, 1, none⟩) (by simp only []; omega)).trans bG0_1
  go_wp2_with fail
  go_region_held3 (fun W => W.cell? ⟨w8.heap.size, 0, none⟩ = some (.int .i64 x1.1) ∧ W.cell? ⟨w8.heap.size, 1, none⟩ = some (.slice buy1 nuy1 cuy1) ∧ W.cell? ⟨w.heap.size + 1, 0, none⟩ = some (.int .i64 x1.1) ∧ W.cell? ⟨w.heap.size + 1, 1, none⟩ = some (.slice bu1 nu1 cu1)) (first | exact ⟨by1_0, by1_1, bp1_0, bp1_1⟩ | assumption) (first | (go_at_call 11; refine (to_Q _ x1 _ (rQ.mono h1 hb14.drew) (by omega)).mono ?_; rintro e w15 ⟨du1, rfl, u1, z15⟩; replace z15 : Below w14.heap.size w14 w15 := (Below.refl _ _).drew.trans z15; have hS1 := (⟨(z15.cell (p := ⟨w8.heap.size, 0, none⟩) (by simp only []; omega)).trans by1_0, (z15.cell (p := ⟨w8.heap.size, 1, none⟩) (by simp only []; omega)).trans by1_1, (z15.cell (p := ⟨w.heap.size + 1, 0, none⟩) (by simp only []; omega)).trans bp1_0, (z15.cell (p := ⟨w.heap.size + 1, 1, none⟩) (by simp only []; omega)).trans bp1_1⟩ : (fun W => W.cell? ⟨w8.heap.size, 0, none⟩ = some (.int .i64 x1.1) ∧ W.cell? ⟨w8.heap.size, 1, none⟩ = some (.slice buy1 nuy1 cuy1) ∧ W.cell? ⟨w.heap.size + 1, 0, none⟩ = some (.int .i64 x1.1) ∧ W.cell? ⟨w.heap.size + 1, 1, none⟩ = some (.slice bu1 nu1 cu1)) w15); obtain ⟨buu1, nuu1, cuu1, rfl⟩ := oQ_form u1; have y1' := y1.below z15 (by omega)) | (go_at_call 15; refine (eq_Q _ _ x1 x1 _ (y1'.rd reads_Q) (u1.rd reads_Q)).mono ?_; rintro e w16 ⟨rfl, z16⟩; have s15 := z15.size; have hT1 := (⟨(z16.cell (p := ⟨w8.heap.size, 0, none⟩) (by simp only []; omega)).trans hS1.1, (z16.cell (p := ⟨w8.heap.size, 1, none⟩) (by simp only []; omega)).trans hS1.2.1, (z16.cell (p := ⟨w.heap.size + 1, 0, none⟩) (by simp only []; omega)).trans hS1.2.2.1, (z16.cell (p := ⟨w.heap.size + 1, 1, none⟩) (by simp only []; omega)).trans hS1.2.2.2⟩ : (fun W => W.cell? ⟨w8.heap.size, 0, none⟩ = some (.int .i64 x1.1) ∧ W.cell? ⟨w8.heap.size, 1, none⟩ = some (.slice buy1 nuy1 cuy1) ∧ W.cell? ⟨w.heap.size + 1, 0, none⟩ = some (.int .i64 x1.1) ∧ W.cell? ⟨w.heap.size + 1, 1, none⟩ = some (.slice bu1 nu1 cu1)) w16)))
  replace z15 : Below w14.heap.size w14 w15 := z15
  clear u1 y1' hS1 hT1
  have t15 := z15.size
  have hb15 := on hb14 z15
  replace W0 := W0.below z15 (by omega)
  replace y0 := y0.below z15 (by omega)
  replace y1 := y1.below z15 (by omega)
  replace G0 := G0.below z15 (by omega)
  replace bp0_0 := (z15.cell (p := ⟨w.heap.size, 0, none⟩) (by simp only []; omega)).trans bp0_0
  replace bp1_0 := (z15.cell (p := ⟨w.heap.size + 1, 0, none⟩) (by simp only []; omega)).trans bp1_0
  replace bp1_1 := (z15.cell (p := ⟨w.heap.size + 1, 1, none⟩) (by simp only []; omega)).trans bp1_1
  replace bW0_0 := (z15.cell (p := ⟨BW0, 0, none⟩) (by simp only []; omega)).trans bW0_0
  replace bW0_1 := (z15.cell (p := ⟨BW0, 1, none⟩) (by simp only []; omega)).trans bW0_1
  replace by0_0 := (z15.cell (p := ⟨w6.heap.size, 0, none⟩) (by simp only []; omega)).trans by0_0
  replace by1_0 := (z15.cell (p := ⟨w8.heap.size, 0, none⟩) (by simp only []; omega)).trans by1_0
  replace by1_1 := (z15.cell (p := ⟨w8.heap.size, 1, none⟩) (by simp only []; omega)).trans by1_1
  replace bG0_0 := (z15.cell (p := ⟨w10.heap.size, 0, none⟩) (by simp only []; omega)).trans bG0_0
  replace bG0_1 := (z15.cell (p := ⟨w10.heap.size, 1, none⟩) (by simp only []; omega)).trans bG0_1
  have t16 := z16.size
  have hb16 := on hb15 z16
  replace W0 := W0.below z16 (by omega)
  replace y0 := y0.below z16 (by omega)
  replace y1 := y1.below z16 (by omega)
  replace G0 := G0.below z16 (by omega)
  replace bp0_0 := (z16.cell (p := ⟨w.heap.size, 0, none⟩) (by simp only []; omega)).trans bp0_0
  replace bp1_0 := (z16.cell (p := ⟨w.heap.size + 1, 0, none⟩) (by simp only []; omega)).trans bp1_0
  replace bp1_1 := (z16.cell (p := ⟨w.heap.size + 1, 1, none⟩) (by simp only []; omega)).trans bp1_1
  replace bW0_0 := (z16.cell (p := ⟨BW0, 0, none⟩) (by simp only []; omega)).trans bW0_0
  replace bW0_1 := (z16.cell (p := ⟨BW0, 1, none⟩) (by simp only []; omega)).trans bW0_1
  replace by0_0 := (z16.cell (p := ⟨w6.heap.size, 0, none⟩) (by simp only []; omega)).trans by0_0
  replace by1_0 := (z16.cell (p := ⟨w8.heap.size, 0, none⟩) (by simp only []; omega)).trans by1_0
  replace by1_1 := (z16.cell (p := ⟨w8.heap.size, 1, none⟩) (by simp only []; omega)).trans by1_1
  replace bG0_0 := (z16.cell (p := ⟨w10.heap.size, 0, none⟩) (by simp only []; omega)).trans bG0_0
  replace bG0_1 := (z16.cell (p := ⟨w10.heap.size, 1, none⟩) (by simp only []; omega)).trans bG0_1
  have hct0 := cnt_le_Db x0
  have hct1 := cnt_le_Q x1
  go_wp2_with fail
  refine (mark_Db _ x0 (1) w5.heap.size w6.heap.size _ y0 (by omega) (by omega) (by omega) (by omega)).mono ?_
  rintro e w17 ⟨rfl, y0m, z17⟩
  have s17 := z17.size
  have hb17 := hb16.trans ((z17.below (by omega)).mono (by omega))
  replace W0 := W0.turn z17 (by omega)
  replace y1 := y1.turn z17 (by omega)
  replace G0 := G0.turn z17 (by omega)
  replace bp0_0 := (z17.cell (p := ⟨w.heap.size, 0, none⟩) (by simp only []; omega) (by simp only []; omega)).trans bp0_0
  replace bp1_0 := (z17.cell (p := ⟨w.heap.size + 1, 0, none⟩) (by simp only []; omega) (by simp only []; omega)).trans bp1_0
  replace bp1_1 := (z17.cell (p := ⟨w.heap.size + 1, 1, none⟩) (by simp only []; omega) (by simp only []; omega)).trans bp1_1
  replace bW0_0 := (z17.cell (p := ⟨BW0, 0, none⟩) (by simp only []; omega) (by simp only []; omega)).trans bW0_0
  replace bW0_1 := (z17.cell (p := ⟨BW0, 1, none⟩) (by simp only []; omega) (by simp only []; omega)).trans bW0_1
  replace by0_0 := (z17.cell (p := ⟨w6.heap.size, 0, none⟩) (by simp only []; omega) (by simp only []; omega)).trans by0_0
  replace by1_0 := (z17.cell (p := ⟨w8.heap.size, 0, none⟩) (by simp only []; omega) (by simp only []; omega)).trans by1_0
  replace by1_1 := (z17.cell (p := ⟨w8.heap.size, 1, none⟩) (by simp only []; omega) (by simp only []; omega)).trans by1_1
  replace bG0_0 := (z17.cell (p := ⟨w10.heap.size, 0, none⟩) (by simp only []; omega) (by simp only []; omega)).trans bG0_0
  replace bG0_1 := (z17.cell (p := ⟨w10.heap.size, 1, none⟩) (by simp only []; omega) (by simp only []; omega)).trans bG0_1
  clear y0
  clear y0m
  go_wp2_with fail
  refine (mark_Q _ x1 (1 + (cnt_Db x0 : Int)) w7.heap.size w8.heap.size _ y1 (by omega) (by omega) (by omega) (by omega)).mono ?_
  rintro e w18 ⟨rfl, y1m, z18⟩
  have s18 := z18.size
  have hb18 := hb17.trans ((z18.below (by omega)).mono (by omega))
  replace W0 := W0.turn z18 (by omega)
  replace G0 := G0.turn z18 (by omega)
  replace bp0_0 := (z18.cell (p := ⟨w.heap.size, 0, none⟩) (by simp only []; omega) (by simp only []; omega)).trans bp0_0
  replace bp1_0 := (z18.cell (p := ⟨w.heap.size + 1, 0, none⟩) (by simp only []; omega) (by simp only []; omega)).trans bp1_0
  replace bp1_1 := (z18.cell (p := ⟨w.heap.size + 1, 1, none⟩) (by simp only []; omega) (by simp only []; omega)).trans bp1_1
  replace bW0_0 := (z18.cell (p := ⟨BW0, 0, none⟩) (by simp only []; omega) (by simp only []; omega)).trans bW0_0
  replace bW0_1 := (z18.cell (p := ⟨BW0, 1, none⟩) (by simp only []; omega) (by simp only []; omega)).trans bW0_1
  replace by0_0 := (z18.cell (p := ⟨w6.heap.size, 0, none⟩) (by simp only []; omega) (by simp only []; omega)).trans by0_0
  replace by1_0 := (z18.cell (p := ⟨w8.heap.size, 0, none⟩) (by simp only []; omega) (by simp only []; omega)).trans by1_0
  replace by1_1 := (z18.cell (p := ⟨w8.heap.size, 1, none⟩) (by simp only []; omega) (by simp only []; omega)).trans by1_1
  replace bG0_0 := (z18.cell (p := ⟨w10.heap.size, 0, none⟩) (by simp only []; omega) (by simp only []; omega)).trans bG0_0
  replace bG0_1 := (z18.cell (p := ⟨w10.heap.size, 1, none⟩) (by simp only []; omega) (by simp only []; omega)).trans bG0_1
  clear y1
  clear y1m
  go_wp2_with fail
  refine (eq_An _ _ _ _ _ (G0.rd reads_An) (W0.rd reads_An)).mono ?_
  rintro e w19 ⟨rfl, z19⟩
  have s19 := z19.size
  have hb19 := on hb18 z19
  replace W0 := W0.below z19 (by omega)
  replace G0 := G0.below z19 (by omega)
  replace bp0_0 := (z19.cell (p := ⟨w.heap.size, 0, none⟩) (by simp only []; omega)).trans bp0_0
  replace bp1_0 := (z19.cell (p := ⟨w.heap.size + 1, 0, none⟩) (by simp only []; omega)).trans bp1_0
  replace bp1_1 := (z19.cell (p := ⟨w.heap.size + 1, 1, none⟩) (by simp only []; omega)).trans bp1_1
  replace bW0_0 := (z19.cell (p := ⟨BW0, 0, none⟩) (by simp only []; omega)).trans bW0_0
  replace bW0_1 := (z19.cell (p := ⟨BW0, 1, none⟩) (by simp only []; omega)).trans bW0_1
  replace by0_0 := (z19.cell (p := ⟨w6.heap.size, 0, none⟩) (by simp only []; omega)).trans by0_0
  replace by1_0 := (z19.cell (p := ⟨w8.heap.size, 0, none⟩) (by simp only []; omega)).trans by1_0
  replace by1_1 := (z19.cell (p := ⟨w8.heap.size, 1, none⟩) (by simp only []; omega)).trans by1_1
  replace bG0_0 := (z19.cell (p := ⟨w10.heap.size, 0, none⟩) (by simp only []; omega)).trans bG0_0
  replace bG0_1 := (z19.cell (p := ⟨w10.heap.size, 1, none⟩) (by simp only []; omega)).trans bG0_1
  have hrb0 := evalM_bulk x0 x1 x2
  go_wp2_with fail
  refine (mark_An _ _ (1) w9.heap.size w10.heap.size _ G0 (by omega) (by omega) (by omega) (by omega)).mono ?_
  rintro e w20 ⟨rfl, M0, z20⟩
  have s20 := z20.size
  have hb20 := hb19.trans ((z20.below (by omega)).mono (by omega))
  replace W0 := W0.turn z20 (by omega)
  replace bp0_0 := (z20.cell (p := ⟨w.heap.size, 0, none⟩) (by simp only []; omega) (by simp only []; omega)).trans bp0_0
  replace bp1_0 := (z20.cell (p := ⟨w.heap.size + 1, 0, none⟩) (by simp only []; omega) (by simp only []; omega)).trans bp1_0
  replace bp1_1 := (z20.cell (p := ⟨w.heap.size + 1, 1, none⟩) (by simp only []; omega) (by simp only []; omega)).trans bp1_1
  replace bW0_0 := (z20.cell (p := ⟨BW0, 0, none⟩) (by simp only []; omega) (by simp only []; omega)).trans bW0_0
  replace bW0_1 := (z20.cell (p := ⟨BW0, 1, none⟩) (by simp only []; omega) (by simp only []; omega)).trans bW0_1
  replace by0_0 := (z20.cell (p := ⟨w6.heap.size, 0, none⟩) (by simp only []; omega) (by simp only []; omega)).trans by0_0
  replace by1_0 := (z20.cell (p := ⟨w8.heap.size, 0, none⟩) (by simp only []; omega) (by simp only []; omega)).trans by1_0
  replace by1_1 := (z20.cell (p := ⟨w8.heap.size, 1, none⟩) (by simp only []; omega) (by simp only []; omega)).trans by1_1
  replace bG0_0 := (z20.cell (p := ⟨w10.heap.size, 0, none⟩) (by simp only []; omega) (by simp only []; omega)).trans bG0_0
  replace bG0_1 := (z20.cell (p := ⟨w10.heap.size, 1, none⟩) (by simp only []; omega) (by simp only []; omega)).trans bG0_1
  clear G0
  go_wp2_with fail
  refine (held_An _ _ (1) _ (M0.rd reads_An) (by omega) (by omega) (by omega)).mono ?_
  rintro e w21 ⟨rfl, z21⟩
  have s21 := z21.size
  have hb21 := on hb20 z21
  replace W0 := W0.below z21 (by omega)
  replace M0 := M0.below z21 (by omega)
  replace bp0_0 := (z21.cell (p := ⟨w.heap.size, 0, none⟩) (by simp only []; omega)).trans bp0_0
  replace bp1_0 := (z21.cell (p := ⟨w.heap.size + 1, 0, none⟩) (by simp only []; omega)).trans bp1_0
  replace bp1_1 := (z21.cell (p := ⟨w.heap.size + 1, 1, none⟩) (by simp only []; omega)).trans bp1_1
  replace bW0_0 := (z21.cell (p := ⟨BW0, 0, none⟩) (by simp only []; omega)).trans bW0_0
  replace bW0_1 := (z21.cell (p := ⟨BW0, 1, none⟩) (by simp only []; omega)).trans bW0_1
  replace by0_0 := (z21.cell (p := ⟨w6.heap.size, 0, none⟩) (by simp only []; omega)).trans by0_0
  replace by1_0 := (z21.cell (p := ⟨w8.heap.size, 0, none⟩) (by simp only []; omega)).trans by1_0
  replace by1_1 := (z21.cell (p := ⟨w8.heap.size, 1, none⟩) (by simp only []; omega)).trans by1_1
  replace bG0_0 := (z21.cell (p := ⟨w10.heap.size, 0, none⟩) (by simp only []; omega)).trans bG0_0
  replace bG0_1 := (z21.cell (p := ⟨w10.heap.size, 1, none⟩) (by simp only []; omega)).trans bG0_1
  go_wp2_with fail
  apply share4 (fun (BH0 : Nat) (w22 : World) (bup0 : Option Addr) (nup0 : Nat) (cup0 : Nat) (bup1 : Option Addr) (nup1 : Nat) (cup1 : Nat) (buH0 : Option Addr) (nuH0 : Nat) (cuH0 : Nat) (buH0b : Option Addr) (nuH0b : Nat) (cuH0b : Nat) => Below w21.heap.size w21 w22 ∧ w21.heap.size ≤ BH0 ∧ BH0 < w22.heap.size ∧ (w22.cell? ⟨BH0, 0, none⟩ = some (.slice buH0 nuH0 cuH0) ∧ w22.cell? ⟨BH0, 1, none⟩ = some (.slice buH0b nuH0b cuH0b)) ∧ ∃ lo hi, w21.heap.size ≤ lo ∧ lo ≤ hi ∧ hi ≤ w22.heap.size ∧ (BH0 < lo ∨ hi ≤ BH0) ∧ Own oAn lo hi w22 [.slice buH0 nuH0 cuH0, .slice buH0b nuH0b cuH0b] (evalM x0 x1 x2))
  case br =>
    intro key
    refine wp_region_noPanic ?_
    refine wp_region_held_drew (S := (fun W => W.cell? ⟨w.heap.size, 0, none⟩ = some (.slice bu0 nu0 cu0) ∧ W.cell? ⟨w.heap.size + 1, 0, none⟩ = some (.int .i64 x1.1) ∧ W.cell? ⟨w.heap.size + 1, 1, none⟩ = some (.slice bu1 nu1 cu1))) (by kernel_rfl) ?hS (fun hHeld => ?_)
    case hS => exact ⟨bp0_0, bp1_0, bp1_1⟩
    refine wpAnyH_take (i := 0) (v := ?v0_p1) rfl (by kernel_rfl) (by kernel_rfl) (by kernel_rfl) (fun _ _ _ h => h) (Or.inl ⟨by rfl, ?hy0_p1⟩) (by assumption) ?rest0_p1
    case hy0_p1 => intro w hSw; (try dsimp only at hSw); go_simp; (try with_reducible rfl)
    try simp only [Act.put, List.getElem_toArray, List.getElem_cons_succ, List.getElem_cons_zero, List.setIfInBounds_toArray, List.set_cons_zero, List.set_cons_succ]
    refine wpAnyH_take (i := 2) (v := ?v2_p2) rfl (by kernel_rfl) (by kernel_rfl) (by kernel_rfl) (fun _ _ _ h => h) (Or.inl ⟨by rfl, ?hy2_p2⟩) (by assumption) ?rest2_p2
    case hy2_p2 => intro w hSw; (try dsimp only at hSw); go_simp; (try with_reducible rfl)
    try simp only [Act.put, List.getElem_toArray, List.getElem_cons_succ, List.getElem_cons_zero, List.setIfInBounds_toArray, List.set_cons_zero, List.set_cons_succ]
    refine wpAnyH_take (i := 4) (v := ?v4_p3) rfl (by kernel_rfl) (by kernel_rfl) (by kernel_rfl) (fun _ _ _ h => h) (Or.inl ⟨by rfl, ?hy4_p3⟩) (by assumption) ?rest4_p3
    case hy4_p3 => intro w hSw; (try dsimp only at hSw); go_simp; (try with_reducible rfl)
    try simp only [Act.put, List.getElem_toArray, List.getElem_cons_succ, List.getElem_cons_zero, List.setIfInBounds_toArray, List.set_cons_zero, List.set_cons_succ]
    refine wpAnyH_ready (rs := [1, 9]) (by kernel_rfl) (by simp) ?_
    refine AllReadyH.cons rfl (fun K hK => ?_) (AllReadyH.cons rfl (fun K hK => ?_) AllReadyH.nil)
    · skip
      go_simp
      refine (to_Db _ x0 _ (rDb.mono h0 (hb21.drew)) (by omega)).mono ?_
      rintro e v4 ⟨cp0, rfl, p0, y4⟩
      obtain ⟨bup0, nup0, cup0, rfl⟩ := oDb_form p0
      replace y4 : Below w21.heap.size w21 v4 := on (Below.refl _ _).drew y4
      have y4s := y4.size
      have gv4 := on hb21 y4
      have Sv4 := (⟨(y4.cell (p := ⟨w.heap.size, 0, none⟩) (by simp only []; omega)).trans bp0_0, (y4.cell (p := ⟨w.heap.size + 1, 0, none⟩) (by simp only []; omega)).trans bp1_0, (y4.cell (p := ⟨w.heap.size + 1, 1, none⟩) (by simp only []; omega)).trans bp1_1⟩ : (fun W => W.cell? ⟨w.heap.size, 0, none⟩ = some (.slice bu0 nu0 cu0) ∧ W.cell? ⟨w.heap.size + 1, 0, none⟩ = some (.int .i64 x1.1) ∧ W.cell? ⟨w.heap.size + 1, 1, none⟩ = some (.slice bu1 nu1 cu1)) v4)
      refine hK.out _ _ ?_ (fun hHeld => ?_)
      · exact Sv4
      clear hK K
      try simp only [Act.put, List.setIfInBounds_toArray, List.set_cons_zero, List.set_cons_succ]
      refine wpAnyH_ready (rs := [3, 9]) (by kernel_rfl) (by simp) ?_
      refine AllReadyH.cons rfl (fun K hK => ?_) (AllReadyH.cons rfl (fun K hK => ?_) AllReadyH.nil)
      · skip
        go_simp
        refine (to_Q _ x1 _ (rQ.mono h1 (gv4)) (by omega)).mono ?_
        rintro e v5 ⟨cp1, rfl, p1, y5⟩
        obtain ⟨bup1, nup1, cup1, rfl⟩ := oQ_form p1
        have y5s := y5.size
        have gv5 := on gv4 y5
        have Sv5 := (⟨(y5.cell (p := ⟨w.heap.size, 0, none⟩) (by simp only []; omega)).trans Sv4.1, (y5.cell (p := ⟨w.heap.size + 1, 0, none⟩) (by simp only []; omega)).trans Sv4.2.1, (y5.cell (p := ⟨w.heap.size + 1, 1, none⟩) (by simp only []; omega)).trans Sv4.2.2⟩ : (fun W => W.cell? ⟨w.heap.size, 0, none⟩ = some (.slice bu0 nu0 cu0) ∧ W.cell? ⟨w.heap.size + 1, 0, none⟩ = some (.int .i64 x1.1) ∧ W.cell? ⟨w.heap.size + 1, 1, none⟩ = some (.slice bu1 nu1 cu1)) v5)
        have cv5 := on y4 y5
        replace p0 := p0.below y5 (by omega)
        refine hK.out _ _ ?_ (fun hHeld => ?_)
        · exact Sv5
        clear hK K
        try simp only [Act.put, List.setIfInBounds_toArray, List.set_cons_zero, List.set_cons_succ]
        refine wpAnyH_ready (rs := [5, 9]) (by kernel_rfl) (by simp) ?_
        refine AllReadyH.cons rfl (fun K hK => ?_) (AllReadyH.cons rfl (fun K hK => ?_) AllReadyH.nil)
        · skip
          go_simp
          refine (eval_impl _ _ x0 x1 x2 _ (p0.rd reads_Db) (p1.rd reads_Q) h2).mono ?_
          rintro e v6 ⟨cH0, rfl, H0, y6⟩
          obtain ⟨buH0, nuH0, cuH0, buH0b, nuH0b, cuH0b, rfl⟩ := oAn_form H0
          have y6s := y6.size
          have gv6 := on gv5 y6
          have Sv6 := (⟨(y6.cell (p := ⟨w.heap.size, 0, none⟩) (by simp only []; omega)).trans Sv5.1, (y6.cell (p := ⟨w.heap.size + 1, 0, none⟩) (by simp only []; omega)).trans Sv5.2.1, (y6.cell (p := ⟨w.heap.size + 1, 1, none⟩) (by simp only []; omega)).trans Sv5.2.2⟩ : (fun W => W.cell? ⟨w.heap.size, 0, none⟩ = some (.slice bu0 nu0 cu0) ∧ W.cell? ⟨w.heap.size + 1, 0, none⟩ = some (.int .i64 x1.1) ∧ W.cell? ⟨w.heap.size + 1, 1, none⟩ = some (.slice bu1 nu1 cu1)) v6)
          have cv6 := on cv5 y6
          refine hK.out _ _ ?_ (fun hHeld => ?_)
          · exact Sv6
          clear hK K
          try simp only [Act.put, List.setIfInBounds_toArray, List.set_cons_zero, List.set_cons_succ]
          refine wpAnyH_take (i := 6) (v := ?v6_p7) rfl (by kernel_rfl) (by kernel_rfl) (by kernel_rfl) (fun _ _ _ h => h) (Or.inl ⟨by rfl, ?hy6_p7⟩) (by assumption) ?rest6_p7
          case hy6_p7 => intro w hSw; (try dsimp only at hSw); go_simp; (try with_reducible rfl)
          try simp only [Act.put, List.getElem_toArray, List.getElem_cons_succ, List.getElem_cons_zero, List.setIfInBounds_toArray, List.set_cons_zero, List.set_cons_succ]
          refine wpAnyH_take (i := 7) (v := ?v7_p8) rfl (by kernel_rfl) (by kernel_rfl) (by kernel_rfl) (fun _ _ _ h => h) (Or.inl ⟨by rfl, ?hy7_p8⟩) (by assumption) ?rest7_p8
          case hy7_p8 => intro w hSw; (try dsimp only at hSw); go_simp; (try with_reducible rfl)
          try simp only [Act.put, List.getElem_toArray, List.getElem_cons_succ, List.getElem_cons_zero, List.setIfInBounds_toArray, List.set_cons_zero, List.set_cons_succ]
          refine wpAnyH_take (i := 8) (v := ?v8_p9) rfl (by kernel_rfl) (by kernel_rfl) (by kernel_rfl) (fun _ _ _ h => h) (Or.inl ⟨by rfl, ?hy8_p9⟩) (by assumption) ?rest8_p9
          case hy8_p9 => intro w hSw; (try dsimp only at hSw); go_simp; (try with_reducible rfl)
          try simp only [Act.put, List.getElem_toArray, List.getElem_cons_succ, List.getElem_cons_zero, List.setIfInBounds_toArray, List.set_cons_zero, List.set_cons_succ]
          refine wpAnyH_ready (rs := [9]) (by kernel_rfl) (by simp) ?_
          refine AllReadyH.cons rfl (fun K hK => ?_) AllReadyH.nil
          go_simp
          obtain ⟨v10, hwv10⟩ : ∃ W, W = v6.alloc (.cells #[.slice none 0 0, .slice none 0 0] 49) := ⟨_, rfl⟩
          have n_0 : v10.cell? ⟨v6.heap.size, 0, none⟩ = some (.slice none 0 0) := by rw [hwv10]; exact box_cell (Below.refl _ _) rfl
          have n_1 : v10.cell? ⟨v6.heap.size, 1, none⟩ = some (.slice none 0 0) := by rw [hwv10]; exact box_cell (Below.refl _ _) rfl
          have n_f0 : v10.frozen? ⟨v6.heap.size, 0, none⟩ = false := by rw [hwv10]; exact box_frozen (Below.refl _ _)
          have n_f1 : v10.frozen? ⟨v6.heap.size, 1, none⟩ = false := by rw [hwv10]; exact box_frozen (Below.refl _ _)
          have y10 : Below v6.heap.size v6 v10 := by rw [hwv10]; exact ((Below.refl _ _).alloc (Nat.le_refl _) _)
          have y10s : v6.heap.size < v10.heap.size := by rw [hwv10]; show _ < (v6.alloc _).heap.size; simp
          have gv10 := on gv6 y10
          have Sv10 := (⟨(y10.cell (p := ⟨w.heap.size, 0, none⟩) (by simp only []; omega)).trans Sv6.1, (y10.cell (p := ⟨w.heap.size + 1, 0, none⟩) (by simp only []; omega)).trans Sv6.2.1, (y10.cell (p := ⟨w.heap.size + 1, 1, none⟩) (by simp only []; omega)).trans Sv6.2.2⟩ : (fun W => W.cell? ⟨w.heap.size, 0, none⟩ = some (.slice bu0 nu0 cu0) ∧ W.cell? ⟨w.heap.size + 1, 0, none⟩ = some (.int .i64 x1.1) ∧ W.cell? ⟨w.heap.size + 1, 1, none⟩ = some (.slice bu1 nu1 cu1)) v10)
          have cv10 := on cv6 y10
          replace H0 := H0.below y10 (by omega)
          rw [← hwv10]
          clear hwv10
          refine hK.out _ _ ?_ (fun hHeld => ?_)
          · exact Sv10
          clear hK K
          try simp only [Act.put, List.setIfInBounds_toArray, List.set_cons_zero, List.set_cons_succ]
          refine wpAnyH_ready (rs := [10]) (by kernel_rfl) (by simp) ?_
          refine AllReadyH.cons rfl (fun K hK => ?_) AllReadyH.nil
          go_simp
          refine hK.out _ _ ?_ (fun hHeld => ?_)
          · exact ⟨cell_set (cell_set Sv10.1 (by simp only []; omega)) (by simp only []; omega), cell_set (cell_set Sv10.2.1 (by simp only []; omega)) (by simp only []; omega), cell_set (cell_set Sv10.2.2 (by simp only []; omega)) (by simp only []; omega)⟩
          clear hK K
          try simp only [Act.put, List.setIfInBounds_toArray, List.set_cons_zero, List.set_cons_succ]
          refine wpAnyH_take (i := 11) (v := ?v11_p11) rfl (by kernel_rfl) (by kernel_rfl) (by kernel_rfl) (fun _ _ _ h => h) (Or.inl ⟨by rfl, ?hy11_p11⟩) (by assumption) ?rest11_p11
          case hy11_p11 => intro w hSw; (try dsimp only at hSw); go_simp; (try with_reducible rfl)
          try simp only [Act.put, List.getElem_toArray, List.getElem_cons_succ, List.getElem_cons_zero, List.setIfInBounds_toArray, List.set_cons_zero, List.set_cons_succ]
          refine wpAnyH_done (by kernel_rfl) ?_ _
          refine NoPanic.normal ?_
          obtain ⟨Wf, hWf⟩ : ∃ W, W = (v10.setCell ⟨v6.heap.size, 0, none⟩ (.slice buH0 nuH0 cuH0)).setCell ⟨v6.heap.size, 1, none⟩ (.slice buH0b nuH0b cuH0b) := ⟨_, rfl⟩
          rw [← hWf]
          have f0 : Below w21.heap.size w21 Wf := by rw [hWf]; exact (cv10.setCell (by simp only []; omega) _).setCell (by simp only []; omega) _
          have f1 : v10.heap.size = Wf.heap.size := by rw [hWf]; simp [World.setCell]
          have f2 : Wf.cell? ⟨v6.heap.size, 0, none⟩ = some (.slice buH0 nuH0 cuH0) := by rw [hWf]; simp [go_sem, n_0, n_1]
          have f3 : Wf.cell? ⟨v6.heap.size, 1, none⟩ = some (.slice buH0b nuH0b cuH0b) := by rw [hWf]; simp [go_sem, n_0, n_1]
          have f4 : Own oAn v5.heap.size v6.heap.size Wf [.slice buH0 nuH0 cuH0, .slice buH0b nuH0b cuH0b] (evalM x0 x1 x2) := by rw [hWf]; exact Own.setOff (Own.setOff H0 rfl (by simp only []; omega)) rfl (by simp only []; omega)
          obtain ⟨BB, hBB⟩ : ∃ B, B = v6.heap.size := ⟨_, rfl⟩
          rw [← hBB] at f2 f3 ⊢
          have f5 : w21.heap.size ≤ BB ∧ BB < Wf.heap.size := by omega
          have f6 : w21.heap.size ≤ v5.heap.size ∧ v5.heap.size ≤ v6.heap.size ∧ v6.heap.size ≤ Wf.heap.size ∧ (BB < v5.heap.size ∨ v6.heap.size ≤ BB) := by omega
          have fin : ∃ lo hi, w21.heap.size ≤ lo ∧ lo ≤ hi ∧ hi ≤ Wf.heap.size ∧ (BB < lo ∨ hi ≤ BB) ∧ Own oAn lo hi Wf [.slice buH0 nuH0 cuH0, .slice buH0b nuH0b cuH0b] (evalM x0 x1 x2) := ⟨_, _, f6.1, f6.2.1, f6.2.2.1, f6.2.2.2, f4⟩
          clear f4 f6 hWf f1 hBB
          exact key BB Wf bup0 nup0 cup0 bup1 nup1 cup1 buH0 nuH0 cuH0 buH0b nuH0b cuH0b ⟨f0, f5.1, f5.2, ⟨f2, f3⟩, fin⟩
        · skip
          go_simp
          obtain ⟨v12, hwv12⟩ : ∃ W, W = v5.alloc (.cells #[.slice none 0 0, .slice none 0 0] 49) := ⟨_, rfl⟩
          have n_0 : v12.cell? ⟨v5.heap.size, 0, none⟩ = some (.slice none 0 0) := by rw [hwv12]; exact box_cell (Below.refl _ _) rfl
          have n_1 : v12.cell? ⟨v5.heap.size, 1, none⟩ = some (.slice none 0 0) := by rw [hwv12]; exact box_cell (Below.refl _ _) rfl
          have n_f0 : v12.frozen? ⟨v5.heap.size, 0, none⟩ = false := by rw [hwv12]; exact box_frozen (Below.refl _ _)
          have n_f1 : v12.frozen? ⟨v5.heap.size, 1, none⟩ = false := by rw [hwv12]; exact box_frozen (Below.refl _ _)
          have y12 : Below v5.heap.size v5 v12 := by rw [hwv12]; exact ((Below.refl _ _).alloc (Nat.le_refl _) _)
          have y12s : v5.heap.size < v12.heap.size := by rw [hwv12]; show _ < (v5.alloc _).heap.size; simp
          have gv12 := on gv5 y12
          have Sv12 := (⟨(y12.cell (p := ⟨w.heap.size, 0, none⟩) (by simp only []; omega)).trans Sv5.1, (y12.cell (p := ⟨w.heap.size + 1, 0, none⟩) (by simp only []; omega)).trans Sv5.2.1, (y12.cell (p := ⟨w.heap.size + 1, 1, none⟩) (by simp only []; omega)).trans Sv5.2.2⟩ : (fun W => W.cell? ⟨w.heap.size, 0, none⟩ = some (.slice bu0 nu0 cu0) ∧ W.cell? ⟨w.heap.size + 1, 0, none⟩ = some (.int .i64 x1.1) ∧ W.cell? ⟨w.heap.size + 1, 1, none⟩ = some (.slice bu1 nu1 cu1)) v12)
          have cv12 := on cv5 y12
          replace p0 := p0.below y12 (by omega)
          replace p1 := p1.below y12 (by omega)
          rw [← hwv12]
          clear hwv12
          refine hK.out _ _ ?_ (fun hHeld => ?_)
          · exact Sv12
          clear hK K
          try simp only [Act.put, List.setIfInBounds_toArray, List.set_cons_zero, List.set_cons_succ]
          refine wpAnyH_ready (rs := [5]) (by kernel_rfl) (by simp) ?_
          refine AllReadyH.cons rfl (fun K hK => ?_) AllReadyH.nil
          go_simp
          refine (eval_impl _ _ x0 x1 x2 _ (p0.rd reads_Db) (p1.rd reads_Q) h2).mono ?_
          rintro e v13 ⟨cH0, rfl, H0, y13⟩
          obtain ⟨buH0, nuH0, cuH0, buH0b, nuH0b, cuH0b, rfl⟩ := oAn_form H0
          have y13s := y13.size
          have gv13 := on gv12 y13
          have Sv13 := (⟨(y13.cell (p := ⟨w.heap.size, 0, none⟩) (by simp only []; omega)).trans Sv12.1, (y13.cell (p := ⟨w.heap.size + 1, 0, none⟩) (by simp only []; omega)).trans Sv12.2.1, (y13.cell (p := ⟨w.heap.size + 1, 1, none⟩) (by simp only []; omega)).trans Sv12.2.2⟩ : (fun W => W.cell? ⟨w.heap.size, 0, none⟩ = some (.slice bu0 nu0 cu0) ∧ W.cell? ⟨w.heap.size + 1, 0, none⟩ = some (.int .i64 x1.1) ∧ W.cell? ⟨w.heap.size + 1, 1, none⟩ = some (.slice bu1 nu1 cu1)) v13)
          have cv13 := on cv12 y13
          replace n_0 := (y13.cell (p := ⟨v5.heap.size, 0, none⟩) (by simp only []; omega)).trans n_0
          replace n_1 := (y13.cell (p := ⟨v5.heap.size, 1, none⟩) (by simp only []; omega)).trans n_1
          replace n_f0 := (y13.frozen (p := ⟨v5.heap.size, 0, none⟩) (by simp only []; omega)).trans n_f0
          replace n_f1 := (y13.frozen (p := ⟨v5.heap.size, 1, none⟩) (by simp only []; omega)).trans n_f1
          refine hK.out _ _ ?_ (fun hHeld => ?_)
          · exact Sv13
          clear hK K
          try simp only [Act.put, List.setIfInBounds_toArray, List.set_cons_zero, List.set_cons_succ]
          refine wpAnyH_take (i := 6) (v := ?v6_p14) rfl (by kernel_rfl) (by kernel_rfl) (by kernel_rfl) (fun _ _ _ h => h) (Or.inl ⟨by rfl, ?hy6_p14⟩) (by assumption) ?rest6_p14
          case hy6_p14 => intro w hSw; (try dsimp only at hSw); go_simp; (try with_reducible rfl)
          try simp only [Act.put, List.getElem_toArray, List.getElem_cons_succ, List.getElem_cons_zero, List.setIfInBounds_toArray, List.set_cons_zero, List.set_cons_succ]
          refine wpAnyH_take (i := 7) (v := ?v7_p15) rfl (by kernel_rfl) (by kernel_rfl) (by kernel_rfl) (fun _ _ _ h => h) (Or.inl ⟨by rfl, ?hy7_p15⟩) (by assumption) ?rest7_p15
          case hy7_p15 => intro w hSw; (try dsimp only at hSw); go_simp; (try with_reducible rfl)
          try simp only [Act.put, List.getElem_toArray, List.getElem_cons_succ, List.getElem_cons_zero, List.setIfInBounds_toArray, List.set_cons_zero, List.set_cons_succ]
          refine wpAnyH_take (i := 8) (v := ?v8_p16) rfl (by kernel_rfl) (by kernel_rfl) (by kernel_rfl) (fun _ _ _ h => h) (Or.inl ⟨by rfl, ?hy8_p16⟩) (by assumption) ?rest8_p16
          case hy8_p16 => intro w hSw; (try dsimp only at hSw); go_simp; (try with_reducible rfl)
          try simp only [Act.put, List.getElem_toArray, List.getElem_cons_succ, List.getElem_cons_zero, List.setIfInBounds_toArray, List.set_cons_zero, List.set_cons_succ]
          refine wpAnyH_ready (rs := [10]) (by kernel_rfl) (by simp) ?_
          refine AllReadyH.cons rfl (fun K hK => ?_) AllReadyH.nil
          go_simp
          refine hK.out _ _ ?_ (fun hHeld => ?_)
          · exact ⟨cell_set (cell_set Sv13.1 (by simp only []; omega)) (by simp only []; omega), cell_set (cell_set Sv13.2.1 (by simp only []; omega)) (by simp only []; omega), cell_set (cell_set Sv13.2.2 (by simp only []; omega)) (by simp only []; omega)⟩
          clear hK K
          try simp only [Act.put, List.setIfInBounds_toArray, List.set_cons_zero, List.set_cons_succ]
          refine wpAnyH_take (i := 11) (v := ?v11_p17) rfl (by kernel_rfl) (by kernel_rfl) (by kernel_rfl) (fun _ _ _ h => h) (Or.inl ⟨by rfl, ?hy11_p17⟩) (by assumption) ?rest11_p17
          case hy11_p17 => intro w hSw; (try dsimp only at hSw); go_simp; (try with_reducible rfl)
          try simp only [Act.put, List.getElem_toArray, List.getElem_cons_succ, List.getElem_cons_zero, List.setIfInBounds_toArray, List.set_cons_zero, List.set_cons_succ]
          refine wpAnyH_done (by kernel_rfl) ?_ _
          refine NoPanic.normal ?_
          obtain ⟨Wf, hWf⟩ : ∃ W, W = (v13.setCell ⟨v5.heap.size, 0, none⟩ (.slice buH0 nuH0 cuH0)).setCell ⟨v5.heap.size, 1, none⟩ (.slice buH0b nuH0b cuH0b) := ⟨_, rfl⟩
          rw [← hWf]
          have f0 : Below w21.heap.size w21 Wf := by rw [hWf]; exact (cv13.setCell (by simp only []; omega) _).setCell (by simp only []; omega) _
          have f1 : v13.heap.size = Wf.heap.size := by rw [hWf]; simp [World.setCell]
          have f2 : Wf.cell? ⟨v5.heap.size, 0, none⟩ = some (.slice buH0 nuH0 cuH0) := by rw [hWf]; simp [go_sem, n_0, n_1]
          have f3 : Wf.cell? ⟨v5.heap.size, 1, none⟩ = some (.slice buH0b nuH0b cuH0b) := by rw [hWf]; simp [go_sem, n_0, n_1]
          have f4 : Own oAn v12.heap.size v13.heap.size Wf [.slice buH0 nuH0 cuH0, .slice buH0b nuH0b cuH0b] (evalM x0 x1 x2) := by rw [hWf]; exact Own.setOff (Own.setOff H0 rfl (by simp only []; omega)) rfl (by simp only []; omega)
          obtain ⟨BB, hBB⟩ : ∃ B, B = v5.heap.size := ⟨_, rfl⟩
          rw [← hBB] at f2 f3 ⊢
          have f5 : w21.heap.size ≤ BB ∧ BB < Wf.heap.size := by omega
          have f6 : w21.heap.size ≤ v12.heap.size ∧ v12.heap.size ≤ v13.heap.size ∧ v13.heap.size ≤ Wf.heap.size ∧ (BB < v12.heap.size ∨ v13.heap.size ≤ BB) := by omega
          have fin : ∃ lo hi, w21.heap.size ≤ lo ∧ lo ≤ hi ∧ hi ≤ Wf.heap.size ∧ (BB < lo ∨ hi ≤ BB) ∧ Own oAn lo hi Wf [.slice buH0 nuH0 cuH0, .slice buH0b nuH0b cuH0b] (evalM x0 x1 x2) := ⟨_, _, f6.1, f6.2.1, f6.2.2.1, f6.2.2.2, f4⟩
          clear f4 f6 hWf f1 hBB
          exact key BB Wf bup0 nup0 cup0 bup1 nup1 cup1 buH0 nuH0 cuH0 buH0b nuH0b cuH0b ⟨f0, f5.1, f5.2, ⟨f2, f3⟩, fin⟩
      · skip
        go_simp
        obtain ⟨v18, hwv18⟩ : ∃ W, W = v4.alloc (.cells #[.slice none 0 0, .slice none 0 0] 49) := ⟨_, rfl⟩
        have n_0 : v18.cell? ⟨v4.heap.size, 0, none⟩ = some (.slice none 0 0) := by rw [hwv18]; exact box_cell (Below.refl _ _) rfl
        have n_1 : v18.cell? ⟨v4.heap.size, 1, none⟩ = some (.slice none 0 0) := by rw [hwv18]; exact box_cell (Below.refl _ _) rfl
        have n_f0 : v18.frozen? ⟨v4.heap.size, 0, none⟩ = false := by rw [hwv18]; exact box_frozen (Below.refl _ _)
        have n_f1 : v18.frozen? ⟨v4.heap.size, 1, none⟩ = false := by rw [hwv18]; exact box_frozen (Below.refl _ _)
        have y18 : Below v4.heap.size v4 v18 := by rw [hwv18]; exact ((Below.refl _ _).alloc (Nat.le_refl _) _)
        have y18s : v4.heap.size < v18.heap.size := by rw [hwv18]; show _ < (v4.alloc _).heap.size; simp
        have gv18 := on gv4 y18
        have Sv18 := (⟨(y18.cell (p := ⟨w.heap.size, 0, none⟩) (by simp only []; omega)).trans Sv4.1, (y18.cell (p := ⟨w.heap.size + 1, 0, none⟩) (by simp only []; omega)).trans Sv4.2.1, (y18.cell (p := ⟨w.heap.size + 1, 1, none⟩) (by simp only []; omega)).trans Sv4.2.2⟩ : (fun W => W.cell? ⟨w.heap.size, 0, none⟩ = some (.slice bu0 nu0 cu0) ∧ W.cell? ⟨w.heap.size + 1, 0, none⟩ = some (.int .i64 x1.1) ∧ W.cell? ⟨w.heap.size + 1, 1, none⟩ = some (.slice bu1 nu1 cu1)) v18)
        have cv18 := on y4 y18
        replace p0 := p0.below y18 (by omega)
        rw [← hwv18]
        clear hwv18
        refine hK.out _ _ ?_ (fun hHeld => ?_)
        · exact Sv18
        clear hK K
        try simp only [Act.put, List.setIfInBounds_toArray, List.set_cons_zero, List.set_cons_succ]
        refine wpAnyH_ready (rs := [3]) (by kernel_rfl) (by simp) ?_
        refine AllReadyH.cons rfl (fun K hK => ?_) AllReadyH.nil
        go_simp
        refine (to_Q _ x1 _ (rQ.mono h1 (gv18)) (by omega)).mono ?_
        rintro e v19 ⟨cp1, rfl, p1, y19⟩
        obtain ⟨bup1, nup1, cup1, rfl⟩ := oQ_form p1
        have y19s := y19.size
        have gv19 := on gv18 y19
        have Sv19 := (⟨(y19.cell (p := ⟨w.heap.size, 0, none⟩) (by simp only []; omega)).trans Sv18.1, (y19.cell (p := ⟨w.heap.size + 1, 0, none⟩) (by simp only []; omega)).trans Sv18.2.1, (y19.cell (p := ⟨w.heap.size + 1, 1, none⟩) (by simp only []; omega)).trans Sv18.2.2⟩ : (fun W => W.cell? ⟨w.heap.size, 0, none⟩ = some (.slice bu0 nu0 cu0) ∧ W.cell? ⟨w.heap.size + 1, 0, none⟩ = some (.int .i64 x1.1) ∧ W.cell? ⟨w.heap.size + 1, 1, none⟩ = some (.slice bu1 nu1 cu1)) v19)
        have cv19 := on cv18 y19
        replace p0 := p0.below y19 (by omega)
        replace n_0 := (y19.cell (p := ⟨v4.heap.size, 0, none⟩) (by simp only []; omega)).trans n_0
        replace n_1 := (y19.cell (p := ⟨v4.heap.size, 1, none⟩) (by simp only []; omega)).trans n_1
        replace n_f0 := (y19.frozen (p := ⟨v4.heap.size, 0, none⟩) (by simp only []; omega)).trans n_f0
        replace n_f1 := (y19.frozen (p := ⟨v4.heap.size, 1, none⟩) (by simp only []; omega)).trans n_f1
        refine hK.out _ _ ?_ (fun hHeld => ?_)
        · exact Sv19
        clear hK K
        try simp only [Act.put, List.setIfInBounds_toArray, List.set_cons_zero, List.set_cons_succ]
        refine wpAnyH_ready (rs := [5]) (by kernel_rfl) (by simp) ?_
        refine AllReadyH.cons rfl (fun K hK => ?_) AllReadyH.nil
        go_simp
        refine (eval_impl _ _ x0 x1 x2 _ (p0.rd reads_Db) (p1.rd reads_Q) h2).mono ?_
        rintro e v20 ⟨cH0, rfl, H0, y20⟩
        obtain ⟨buH0, nuH0, cuH0, buH0b, nuH0b, cuH0b, rfl⟩ := oAn_form H0
        have y20s := y20.size
        have gv20 := on gv19 y20
        have Sv20 := (⟨(y20.cell (p := ⟨w.heap.size, 0, none⟩) (by simp only []; omega)).trans Sv19.1, (y20.cell (p := ⟨w.heap.size + 1, 0, none⟩) (by simp only []; omega)).trans Sv19.2.1, (y20.cell (p := ⟨w.heap.size + 1, 1, none⟩) (by simp only []; omega)).trans Sv19.2.2⟩ : (fun W => W.cell? ⟨w.heap.size, 0, none⟩ = some (.slice bu0 nu0 cu0) ∧ W.cell? ⟨w.heap.size + 1, 0, none⟩ = some (.int .i64 x1.1) ∧ W.cell? ⟨w.heap.size + 1, 1, none⟩ = some (.slice bu1 nu1 cu1)) v20)
        have cv20 := on cv19 y20
        replace n_0 := (y20.cell (p := ⟨v4.heap.size, 0, none⟩) (by simp only []; omega)).trans n_0
        replace n_1 := (y20.cell (p := ⟨v4.heap.size, 1, none⟩) (by simp only []; omega)).trans n_1
        replace n_f0 := (y20.frozen (p := ⟨v4.heap.size, 0, none⟩) (by simp only []; omega)).trans n_f0
        replace n_f1 := (y20.frozen (p := ⟨v4.heap.size, 1, none⟩) (by simp only []; omega)).trans n_f1
        refine hK.out _ _ ?_ (fun hHeld => ?_)
        · exact Sv20
        clear hK K
        try simp only [Act.put, List.setIfInBounds_toArray, List.set_cons_zero, List.set_cons_succ]
        refine wpAnyH_take (i := 6) (v := ?v6_p21) rfl (by kernel_rfl) (by kernel_rfl) (by kernel_rfl) (fun _ _ _ h => h) (Or.inl ⟨by rfl, ?hy6_p21⟩) (by assumption) ?rest6_p21
        case hy6_p21 => intro w hSw; (try dsimp only at hSw); go_simp; (try with_reducible rfl)
        try simp only [Act.put, List.getElem_toArray, List.getElem_cons_succ, List.getElem_cons_zero, List.setIfInBounds_toArray, List.set_cons_zero, List.set_cons_succ]
        refine wpAnyH_take (i := 7) (v := ?v7_p22) rfl (by kernel_rfl) (by kernel_rfl) (by kernel_rfl) (fun _ _ _ h => h) (Or.inl ⟨by rfl, ?hy7_p22⟩) (by assumption) ?rest7_p22
        case hy7_p22 => intro w hSw; (try dsimp only at hSw); go_simp; (try with_reducible rfl)
        try simp only [Act.put, List.getElem_toArray, List.getElem_cons_succ, List.getElem_cons_zero, List.setIfInBounds_toArray, List.set_cons_zero, List.set_cons_succ]
        refine wpAnyH_take (i := 8) (v := ?v8_p23) rfl (by kernel_rfl) (by kernel_rfl) (by kernel_rfl) (fun _ _ _ h => h) (Or.inl ⟨by rfl, ?hy8_p23⟩) (by assumption) ?rest8_p23
        case hy8_p23 => intro w hSw; (try dsimp only at hSw); go_simp; (try with_reducible rfl)
        try simp only [Act.put, List.getElem_toArray, List.getElem_cons_succ, List.getElem_cons_zero, List.setIfInBounds_toArray, List.set_cons_zero, List.set_cons_succ]
        refine wpAnyH_ready (rs := [10]) (by kernel_rfl) (by simp) ?_
        refine AllReadyH.cons rfl (fun K hK => ?_) AllReadyH.nil
        go_simp
        refine hK.out _ _ ?_ (fun hHeld => ?_)
        · exact ⟨cell_set (cell_set Sv20.1 (by simp only []; omega)) (by simp only []; omega), cell_set (cell_set Sv20.2.1 (by simp only []; omega)) (by simp only []; omega), cell_set (cell_set Sv20.2.2 (by simp only []; omega)) (by simp only []; omega)⟩
        clear hK K
        try simp only [Act.put, List.setIfInBounds_toArray, List.set_cons_zero, List.set_cons_succ]
        refine wpAnyH_take (i := 11) (v := ?v11_p24) rfl (by kernel_rfl) (by kernel_rfl) (by kernel_rfl) (fun _ _ _ h => h) (Or.inl ⟨by rfl, ?hy11_p24⟩) (by assumption) ?rest11_p24
        case hy11_p24 => intro w hSw; (try dsimp only at hSw); go_simp; (try with_reducible rfl)
        try simp only [Act.put, List.getElem_toArray, List.getElem_cons_succ, List.getElem_cons_zero, List.setIfInBounds_toArray, List.set_cons_zero, List.set_cons_succ]
        refine wpAnyH_done (by kernel_rfl) ?_ _
        refine NoPanic.normal ?_
        obtain ⟨Wf, hWf⟩ : ∃ W, W = (v20.setCell ⟨v4.heap.size, 0, none⟩ (.slice buH0 nuH0 cuH0)).setCell ⟨v4.heap.size, 1, none⟩ (.slice buH0b nuH0b cuH0b) := ⟨_, rfl⟩
        rw [← hWf]
        have f0 : Below w21.heap.size w21 Wf := by rw [hWf]; exact (cv20.setCell (by simp only []; omega) _).setCell (by simp only []; omega) _
        have f1 : v20.heap.size = Wf.heap.size := by rw [hWf]; simp [World.setCell]
        have f2 : Wf.cell? ⟨v4.heap.size, 0, none⟩ = some (.slice buH0 nuH0 cuH0) := by rw [hWf]; simp [go_sem, n_0, n_1]
        have f3 : Wf.cell? ⟨v4.heap.size, 1, none⟩ = some (.slice buH0b nuH0b cuH0b) := by rw [hWf]; simp [go_sem, n_0, n_1]
        have f4 : Own oAn v19.heap.size v20.heap.size Wf [.slice buH0 nuH0 cuH0, .slice buH0b nuH0b cuH0b] (evalM x0 x1 x2) := by rw [hWf]; exact Own.setOff (Own.setOff H0 rfl (by simp only []; omega)) rfl (by simp only []; omega)
        obtain ⟨BB, hBB⟩ : ∃ B, B = v4.heap.size := ⟨_, rfl⟩
        rw [← hBB] at f2 f3 ⊢
        have f5 : w21.heap.size ≤ BB ∧ BB < Wf.heap.size := by omega
        have f6 : w21.heap.size ≤ v19.heap.size ∧ v19.heap.size ≤ v20.heap.size ∧ v20.heap.size ≤ Wf.heap.size ∧ (BB < v19.heap.size ∨ v20.heap.size ≤ BB) := by omega
        have fin : ∃ lo hi, w21.heap.size ≤ lo ∧ lo ≤ hi ∧ hi ≤ Wf.heap.size ∧ (BB < lo ∨ hi ≤ BB) ∧ Own oAn lo hi Wf [.slice buH0 nuH0 cuH0, .slice buH0b nuH0b cuH0b] (evalM x0 x1 x2) := ⟨_, _, f6.1, f6.2.1, f6.2.2.1, f6.2.2.2, f4⟩
        clear f4 f6 hWf f1 hBB
        exact key BB Wf bup0 nup0 cup0 bup1 nup1 cup1 buH0 nuH0 cuH0 buH0b nuH0b cuH0b ⟨f0, f5.1, f5.2, ⟨f2, f3⟩, fin⟩
    · skip
      go_simp
      obtain ⟨v25, hwv25⟩ : ∃ W, W = (w21.alloc (.cells #[.slice none 0 0, .slice none 0 0] 49)).drew := ⟨_, rfl⟩
      have n_0 : v25.cell? ⟨w21.heap.size, 0, none⟩ = some (.slice none 0 0) := by rw [hwv25]; exact box_cell (Below.refl _ _).drew rfl
      have n_1 : v25.cell? ⟨w21.heap.size, 1, none⟩ = some (.slice none 0 0) := by rw [hwv25]; exact box_cell (Below.refl _ _).drew rfl
      have n_f0 : v25.frozen? ⟨w21.heap.size, 0, none⟩ = false := by rw [hwv25]; exact box_frozen (Below.refl _ _).drew
      have n_f1 : v25.frozen? ⟨w21.heap.size, 1, none⟩ = false := by rw [hwv25]; exact box_frozen (Below.refl _ _).drew
      have y25 : Below w21.heap.size w21 v25 := by rw [hwv25]; exact ((Below.refl _ _).alloc (Nat.le_refl _) _).drew
      have y25s : w21.heap.size < v25.heap.size := by rw [hwv25]; show _ < (w21.alloc _).heap.size; simp
      have gv25 := on hb21 y25
      have Sv25 := (⟨(y25.cell (p := ⟨w.heap.size, 0, none⟩) (by simp only []; omega)).trans bp0_0, (y25.cell (p := ⟨w.heap.size + 1, 0, none⟩) (by simp only []; omega)).trans bp1_0, (y25.cell (p := ⟨w.heap.size + 1, 1, none⟩) (by simp only []; omega)).trans bp1_1⟩ : (fun W => W.cell? ⟨w.heap.size, 0, none⟩ = some (.slice bu0 nu0 cu0) ∧ W.cell? ⟨w.heap.size + 1, 0, none⟩ = some (.int .i64 x1.1) ∧ W.cell? ⟨w.heap.size + 1, 1, none⟩ = some (.slice bu1 nu1 cu1)) v25)
      rw [← hwv25]
      clear hwv25
      refine hK.out _ _ ?_ (fun hHeld => ?_)
      · exact Sv25
      clear hK K
      try simp only [Act.put, List.setIfInBounds_toArray, List.set_cons_zero, List.set_cons_succ]
      refine wpAnyH_ready (rs := [1]) (by kernel_rfl) (by simp) ?_
      refine AllReadyH.cons rfl (fun K hK => ?_) AllReadyH.nil
      go_simp
      refine (to_Db _ x0 _ (rDb.mono h0 (gv25)) (by omega)).mono ?_
      rintro e v26 ⟨cp0, rfl, p0, y26⟩
      obtain ⟨bup0, nup0, cup0, rfl⟩ := oDb_form p0
      have y26s := y26.size
      have gv26 := on gv25 y26
      have Sv26 := (⟨(y26.cell (p := ⟨w.heap.size, 0, none⟩) (by simp only []; omega)).trans Sv25.1, (y26.cell (p := ⟨w.heap.size + 1, 0, none⟩) (by simp only []; omega)).trans Sv25.2.1, (y26.cell (p := ⟨w.heap.size + 1, 1, none⟩) (by simp only []; omega)).trans Sv25.2.2⟩ : (fun W => W.cell? ⟨w.heap.size, 0, none⟩ = some (.slice bu0 nu0 cu0) ∧ W.cell? ⟨w.heap.size + 1, 0, none⟩ = some (.int .i64 x1.1) ∧ W.cell? ⟨w.heap.size + 1, 1, none⟩ = some (.slice bu1 nu1 cu1)) v26)
      have cv26 := on y25 y26
      replace n_0 := (y26.cell (p := ⟨w21.heap.size, 0, none⟩) (by simp only []; omega)).trans n_0
      replace n_1 := (y26.cell (p := ⟨w21.heap.size, 1, none⟩) (by simp only []; omega)).trans n_1
      replace n_f0 := (y26.frozen (p := ⟨w21.heap.size, 0, none⟩) (by simp only []; omega)).trans n_f0
      replace n_f1 := (y26.frozen (p := ⟨w21.heap.size, 1, none⟩) (by simp only []; omega)).trans n_f1
      refine hK.out _ _ ?_ (fun hHeld => ?_)
      · exact Sv26
      clear hK K
      try simp only [Act.put, List.setIfInBounds_toArray, List.set_cons_zero, List.set_cons_succ]
      refine wpAnyH_ready (rs := [3]) (by kernel_rfl) (by simp) ?_
      refine AllReadyH.cons rfl (fun K hK => ?_) AllReadyH.nil
      go_simp
      refine (to_Q _ x1 _ (rQ.mono h1 (gv26)) (by omega)).mono ?_
      rintro e v27 ⟨cp1, rfl, p1, y27⟩
      obtain ⟨bup1, nup1, cup1, rfl⟩ := oQ_form p1
      have y27s := y27.size
      have gv27 := on gv26 y27
      have Sv27 := (⟨(y27.cell (p := ⟨w.heap.size, 0, none⟩) (by simp only []; omega)).trans Sv26.1, (y27.cell (p := ⟨w.heap.size + 1, 0, none⟩) (by simp only []; omega)).trans Sv26.2.1, (y27.cell (p := ⟨w.heap.size + 1, 1, none⟩) (by simp only []; omega)).trans Sv26.2.2⟩ : (fun W => W.cell? ⟨w.heap.size, 0, none⟩ = some (.slice bu0 nu0 cu0) ∧ W.cell? ⟨w.heap.size + 1, 0, none⟩ = some (.int .i64 x1.1) ∧ W.cell? ⟨w.heap.size + 1, 1, none⟩ = some (.slice bu1 nu1 cu1)) v27)
      have cv27 := on cv26 y27
      replace p0 := p0.below y27 (by omega)
      replace n_0 := (y27.cell (p := ⟨w21.heap.size, 0, none⟩) (by simp only []; omega)).trans n_0
      replace n_1 := (y27.cell (p := ⟨w21.heap.size, 1, none⟩) (by simp only []; omega)).trans n_1
      replace n_f0 := (y27.frozen (p := ⟨w21.heap.size, 0, none⟩) (by simp only []; omega)).trans n_f0
      replace n_f1 := (y27.frozen (p := ⟨w21.heap.size, 1, none⟩) (by simp only []; omega)).trans n_f1
      refine hK.out _ _ ?_ (fun hHeld => ?_)
      · exact Sv27
      clear hK K
      try simp only [Act.put, List.setIfInBounds_toArray, List.set_cons_zero, List.set_cons_succ]
      refine wpAnyH_ready (rs := [5]) (by kernel_rfl) (by simp) ?_
      refine AllReadyH.cons rfl (fun K hK => ?_) AllReadyH.nil
      go_simp
      refine (eval_impl _ _ x0 x1 x2 _ (p0.rd reads_Db) (p1.rd reads_Q) h2).mono ?_
      rintro e v28 ⟨cH0, rfl, H0, y28⟩
      obtain ⟨buH0, nuH0, cuH0, buH0b, nuH0b, cuH0b, rfl⟩ := oAn_form H0
      have y28s := y28.size
      have gv28 := on gv27 y28
      have Sv28 := (⟨(y28.cell (p := ⟨w.heap.size, 0, none⟩) (by simp only []; omega)).trans Sv27.1, (y28.cell (p := ⟨w.heap.size + 1, 0, none⟩) (by simp only []; omega)).trans Sv27.2.1, (y28.cell (p := ⟨w.heap.size + 1, 1, none⟩) (by simp only []; omega)).trans Sv27.2.2⟩ : (fun W => W.cell? ⟨w.heap.size, 0, none⟩ = some (.slice bu0 nu0 cu0) ∧ W.cell? ⟨w.heap.size + 1, 0, none⟩ = some (.int .i64 x1.1) ∧ W.cell? ⟨w.heap.size + 1, 1, none⟩ = some (.slice bu1 nu1 cu1)) v28)
      have cv28 := on cv27 y28
      replace n_0 := (y28.cell (p := ⟨w21.heap.size, 0, none⟩) (by simp only []; omega)).trans n_0
      replace n_1 := (y28.cell (p := ⟨w21.heap.size, 1, none⟩) (by simp only []; omega)).trans n_1
      replace n_f0 := (y28.frozen (p := ⟨w21.heap.size, 0, none⟩) (by simp only []; omega)).trans n_f0
      replace n_f1 := (y28.frozen (p := ⟨w21.heap.size, 1, none⟩) (by simp only []; omega)).trans n_f1
      refine hK.out _ _ ?_ (fun hHeld => ?_)
      · exact Sv28
      clear hK K
      try simp only [Act.put, List.setIfInBounds_toArray, List.set_cons_zero, List.set_cons_succ]
      refine wpAnyH_take (i := 6) (v := ?v6_p29) rfl (by kernel_rfl) (by kernel_rfl) (by kernel_rfl) (fun _ _ _ h => h) (Or.inl ⟨by rfl, ?hy6_p29⟩) (by assumption) ?rest6_p29
      case hy6_p29 => intro w hSw; (try dsimp only at hSw); go_simp; (try with_reducible rfl)
      try simp only [Act.put, List.getElem_toArray, List.getElem_cons_succ, List.getElem_cons_zero, List.setIfInBounds_toArray, List.set_cons_zero, List.set_cons_succ]
      refine wpAnyH_take (i := 7) (v := ?v7_p30) rfl (by kernel_rfl) (by kernel_rfl) (by kernel_rfl) (fun _ _ _ h => h) (Or.inl ⟨by rfl, ?hy7_p30⟩) (by assumption) ?rest7_p30
      case hy7_p30 => intro w hSw; (try dsimp only at hSw); go_simp; (try with_reducible rfl)
      try simp only [Act.put, List.getElem_toArray, List.getElem_cons_succ, List.getElem_cons_zero, List.setIfInBounds_toArray, List.set_cons_zero, List.set_cons_succ]
      refine wpAnyH_take (i := 8) (v := ?v8_p31) rfl (by kernel_rfl) (by kernel_rfl) (by kernel_rfl) (fun _ _ _ h => h) (Or.inl ⟨by rfl, ?hy8_p31⟩) (by assumption) ?rest8_p31
      case hy8_p31 => intro w hSw; (try dsimp only at hSw); go_simp; (try with_reducible rfl)
      try simp only [Act.put, List.getElem_toArray, List.getElem_cons_succ, List.getElem_cons_zero, List.setIfInBounds_toArray, List.set_cons_zero, List.set_cons_succ]
      refine wpAnyH_ready (rs := [10]) (by kernel_rfl) (by simp) ?_
      refine AllReadyH.cons rfl (fun K hK => ?_) AllReadyH.nil
      go_simp
      refine hK.out _ _ ?_ (fun hHeld => ?_)
      · exact ⟨cell_set (cell_set Sv28.1 (by simp only []; omega)) (by simp only []; omega), cell_set (cell_set Sv28.2.1 (by simp only []; omega)) (by simp only []; omega), cell_set (cell_set Sv28.2.2 (by simp only []; omega)) (by simp only []; omega)⟩
      clear hK K
      try simp only [Act.put, List.setIfInBounds_toArray, List.set_cons_zero, List.set_cons_succ]
      refine wpAnyH_take (i := 11) (v := ?v11_p32) rfl (by kernel_rfl) (by kernel_rfl) (by kernel_rfl) (fun _ _ _ h => h) (Or.inl ⟨by rfl, ?hy11_p32⟩) (by assumption) ?rest11_p32
      case hy11_p32 => intro w hSw; (try dsimp only at hSw); go_simp; (try with_reducible rfl)
      try simp only [Act.put, List.getElem_toArray, List.getElem_cons_succ, List.getElem_cons_zero, List.setIfInBounds_toArray, List.set_cons_zero, List.set_cons_succ]
      refine wpAnyH_done (by kernel_rfl) ?_ _
      refine NoPanic.normal ?_
      obtain ⟨Wf, hWf⟩ : ∃ W, W = (v28.setCell ⟨w21.heap.size, 0, none⟩ (.slice buH0 nuH0 cuH0)).setCell ⟨w21.heap.size, 1, none⟩ (.slice buH0b nuH0b cuH0b) := ⟨_, rfl⟩
      rw [← hWf]
      have f0 : Below w21.heap.size w21 Wf := by rw [hWf]; exact (cv28.setCell (by simp only []; omega) _).setCell (by simp only []; omega) _
      have f1 : v28.heap.size = Wf.heap.size := by rw [hWf]; simp [World.setCell]
      have f2 : Wf.cell? ⟨w21.heap.size, 0, none⟩ = some (.slice buH0 nuH0 cuH0) := by rw [hWf]; simp [go_sem, n_0, n_1]
      have f3 : Wf.cell? ⟨w21.heap.size, 1, none⟩ = some (.slice buH0b nuH0b cuH0b) := by rw [hWf]; simp [go_sem, n_0, n_1]
      have f4 : Own oAn v27.heap.size v28.heap.size Wf [.slice buH0 nuH0 cuH0, .slice buH0b nuH0b cuH0b] (evalM x0 x1 x2) := by rw [hWf]; exact Own.setOff (Own.setOff H0 rfl (by simp only []; omega)) rfl (by simp only []; omega)
      obtain ⟨BB, hBB⟩ : ∃ B, B = w21.heap.size := ⟨_, rfl⟩
      rw [← hBB] at f2 f3 ⊢
      have f5 : w21.heap.size ≤ BB ∧ BB < Wf.heap.size := by omega
      have f6 : w21.heap.size ≤ v27.heap.size ∧ v27.heap.size ≤ v28.heap.size ∧ v28.heap.size ≤ Wf.heap.size ∧ (BB < v27.heap.size ∨ v28.heap.size ≤ BB) := by omega
      have fin : ∃ lo hi, w21.heap.size ≤ lo ∧ lo ≤ hi ∧ hi ≤ Wf.heap.size ∧ (BB < lo ∨ hi ≤ BB) ∧ Own oAn lo hi Wf [.slice buH0 nuH0 cuH0, .slice buH0b nuH0b cuH0b] (evalM x0 x1 x2) := ⟨_, _, f6.1, f6.2.1, f6.2.2.1, f6.2.2.2, f4⟩
      clear f4 f6 hWf f1 hBB
      exact key BB Wf bup0 nup0 cup0 bup1 nup1 cup1 buH0 nuH0 cuH0 buH0b nuH0b cuH0b ⟨f0, f5.1, f5.2, ⟨f2, f3⟩, fin⟩
  intro BH0 w22 bup0 nup0 cup0 bup1 nup1 cup1 buH0 nuH0 cuH0 buH0b nuH0b cuH0b hF
  obtain ⟨z22, BH0q, BH0r, ⟨bH0_0, bH0_1⟩, loH0, hiH0, BH0a, BH0b, BH0c, BH0d, H0⟩ := hF
  have s22 := z22.size
  have hb22 := on hb21 z22
  replace W0 := W0.below z22 (by omega)
  replace M0 := M0.below z22 (by omega)
  replace bp0_0 := (z22.cell (p := ⟨w.heap.size, 0, none⟩) (by simp only []; omega)).trans bp0_0
  replace bp1_0 := (z22.cell (p := ⟨w.heap.size + 1, 0, none⟩) (by simp only []; omega)).trans bp1_0
  replace bp1_1 := (z22.cell (p := ⟨w.heap.size + 1, 1, none⟩) (by simp only []; omega)).trans bp1_1
  replace bW0_0 := (z22.cell (p := ⟨BW0, 0, none⟩) (by simp only []; omega)).trans bW0_0
  replace bW0_1 := (z22.cell (p := ⟨BW0, 1, none⟩) (by simp only []; omega)).trans bW0_1
  replace by0_0 := (z22.cell (p := ⟨w6.heap.size, 0, none⟩) (by simp only []; omega)).trans by0_0
  replace by1_0 := (z22.cell (p := ⟨w8.heap.size, 0, none⟩) (by simp only []; omega)).trans by1_0
  replace by1_1 := (z22.cell (p := ⟨w8.heap.size, 1, none⟩) (by simp only []; omega)).trans by1_1
  replace bG0_0 := (z22.cell (p := ⟨w10.heap.size, 0, none⟩) (by simp only []; omega)).trans bG0_0
  replace bG0_1 := (z22.cell (p := ⟨w10.heap.size, 1, none⟩) (by simp only []; omega)).trans bG0_1
  go_wp2_with fail
  refine (eq_An _ _ _ _ _ (H0.rd reads_An) (W0.rd reads_An)).mono ?_
  rintro e w23 ⟨rfl, z23⟩
  have s23 := z23.size
  have hb23 := on hb22 z23
  replace W0 := W0.below z23 (by omega)
  replace M0 := M0.below z23 (by omega)
  replace H0 := H0.below z23 (by omega)
  replace bp0_0 := (z23.cell (p := ⟨w.heap.size, 0, none⟩) (by simp only []; omega)).trans bp0_0
  replace bp1_0 := (z23.cell (p := ⟨w.heap.size + 1, 0, none⟩) (by simp only []; omega)).trans bp1_0
  replace bp1_1 := (z23.cell (p := ⟨w.heap.size + 1, 1, none⟩) (by simp only []; omega)).trans bp1_1
  replace bW0_0 := (z23.cell (p := ⟨BW0, 0, none⟩) (by simp only []; omega)).trans bW0_0
  replace bW0_1 := (z23.cell (p := ⟨BW0, 1, none⟩) (by simp only []; omega)).trans bW0_1
  replace by0_0 := (z23.cell (p := ⟨w6.heap.size, 0, none⟩) (by simp only []; omega)).trans by0_0
  replace by1_0 := (z23.cell (p := ⟨w8.heap.size, 0, none⟩) (by simp only []; omega)).trans by1_0
  replace by1_1 := (z23.cell (p := ⟨w8.heap.size, 1, none⟩) (by simp only []; omega)).trans by1_1
  replace bG0_0 := (z23.cell (p := ⟨w10.heap.size, 0, none⟩) (by simp only []; omega)).trans bG0_0
  replace bG0_1 := (z23.cell (p := ⟨w10.heap.size, 1, none⟩) (by simp only []; omega)).trans bG0_1
  replace bH0_0 := (z23.cell (p := ⟨BH0, 0, none⟩) (by simp only []; omega)).trans bH0_0
  replace bH0_1 := (z23.cell (p := ⟨BH0, 1, none⟩) (by simp only []; omega)).trans bH0_1
  go_wp2_with fail
  refine (held_An _ _ (1) _ (M0.rd reads_An) (by omega) (by omega) (by omega)).mono ?_
  rintro e w24 ⟨rfl, z24⟩
  have s24 := z24.size
  have hb24 := on hb23 z24
  replace W0 := W0.below z24 (by omega)
  replace M0 := M0.below z24 (by omega)
  replace H0 := H0.below z24 (by omega)
  replace bp0_0 := (z24.cell (p := ⟨w.heap.size, 0, none⟩) (by simp only []; omega)).trans bp0_0
  replace bp1_0 := (z24.cell (p := ⟨w.heap.size + 1, 0, none⟩) (by simp only []; omega)).trans bp1_0
  replace bp1_1 := (z24.cell (p := ⟨w.heap.size + 1, 1, none⟩) (by simp only []; omega)).trans bp1_1
  replace bW0_0 := (z24.cell (p := ⟨BW0, 0, none⟩) (by simp only []; omega)).trans bW0_0
  replace bW0_1 := (z24.cell (p := ⟨BW0, 1, none⟩) (by simp only []; omega)).trans bW0_1
  replace by0_0 := (z24.cell (p := ⟨w6.heap.size, 0, none⟩) (by simp only []; omega)).trans by0_0
  replace by1_0 := (z24.cell (p := ⟨w8.heap.size, 0, none⟩) (by simp only []; omega)).trans by1_0
  replace by1_1 := (z24.cell (p := ⟨w8.heap.size, 1, none⟩) (by simp only []; omega)).trans by1_1
  replace bG0_0 := (z24.cell (p := ⟨w10.heap.size, 0, none⟩) (by simp only []; omega)).trans bG0_0
  replace bG0_1 := (z24.cell (p := ⟨w10.heap.size, 1, none⟩) (by simp only []; omega)).trans bG0_1
  replace bH0_0 := (z24.cell (p := ⟨BH0, 0, none⟩) (by simp only []; omega)).trans bH0_0
  replace bH0_1 := (z24.cell (p := ⟨BH0, 1, none⟩) (by simp only []; omega)).trans bH0_1
  go_wp2_with fail
  go_ret
  exact ⟨rfl, hb24⟩

end Go.Proofs.YtkipgbgkhffkkaaGreat
