/- Texts joined for one claim: ValI, ValS, LIsValidStats. -/
import Derived.Test.YtbkoddikfpkocaaQ72427c7b23
import Derived.Deep.RegionHeld3

/- Contracts: whether statistics are those of a table, by the program. -/
namespace Go.Proofs.Ytbkoddikfpkocaa
open Go.RowKit
set_option linter.unusedVariables false
set_option linter.unusedSimpArgs false
set_option synthInstance.maxSize 2000
set_option synthInstance.maxHeartbeats 400000

set_option maxRecDepth 100000 in
set_option maxHeartbeats 4000000 in
theorem tableOf_any (cs : List Value) (x : DTs) (w : World) (h : rTs.rep w cs x) (hb : bulk_Ts x ≤ 10000000) :
    Calls Try.prog 164 #[.agg cs.toArray] w fun e w' => ∃ rb rn rc, e = .returned (.tuple #[.agg #[.string x.1, .int .i64 x.2.1, .slice rb rn rc], .bool (validS x)]) ∧ Below w.heap.size w w' := by
  have HX := Lib.hid (fun W (hW : Below w.heap.size w W) => rTs.mono h hW)
  obtain ⟨ub, un, uc, rfl, hs, hi, hir, g3⟩ := rTs_open h
  obtain ⟨s, ar, rc0, gs⟩ := x
  simp only at hs hi hir g3 HX
  obtain ⟨hi1, hi2⟩ := hi
  have t3 := rS_sl g3
  have hl := t3.len
  have hn := t3.small
  clear h g3
  have hb0 : Below w.heap.size w w := Below.refl _ _
  go_enter Try.func164, Try.ntmps164
  obtain ⟨w1, hw1⟩ : ∃ W, W = w.alloc (.cells #[.string s, .int .i64 ar, .int .i64 rc0, .slice ub un uc] 101) := ⟨_, rfl⟩
  have z1 : Below w.heap.size w w1 := by rw [hw1]; exact (Below.refl _ _).alloc (Nat.le_refl _) _
  have s1 : w1.heap.size = w.heap.size + 1 := by rw [hw1]; simp
  have hb1 := on hb0 z1
  have b_0 : w1.cell? ⟨w.heap.size, 0, none⟩ = some (.string s) := by rw [hw1]; exact box_cell (Below.refl _ _) rfl
  have b_1 : w1.cell? ⟨w.heap.size, 1, none⟩ = some (.int .i64 ar) := by rw [hw1]; exact box_cell (Below.refl _ _) rfl
  have b_2 : w1.cell? ⟨w.heap.size, 2, none⟩ = some (.int .i64 rc0) := by rw [hw1]; exact box_cell (Below.refl _ _) rfl
  have b_3 : w1.cell? ⟨w.heap.size, 3, none⟩ = some (.slice ub un uc) := by rw [hw1]; exact box_cell (Below.refl _ _) rfl
  have b_f0 : w1.frozen? ⟨w.heap.size, 0, none⟩ = false := by rw [hw1]; exact box_frozen (Below.refl _ _)
  have b_f1 : w1.frozen? ⟨w.heap.size, 1, none⟩ = false := by rw [hw1]; exact box_frozen (Below.refl _ _)
  have b_f2 : w1.frozen? ⟨w.heap.size, 2, none⟩ = false := by rw [hw1]; exact box_frozen (Below.refl _ _)
  have b_f3 : w1.frozen? ⟨w.heap.size, 3, none⟩ = false := by rw [hw1]; exact box_frozen (Below.refl _ _)
  have raw1_b_0 := b_0
  have raw1_b_1 := b_1
  have raw1_b_2 := b_2
  have raw1_b_3 := b_3
  rw [hw1] at raw1_b_0 raw1_b_1 raw1_b_2 raw1_b_3
  obtain ⟨w2, hw2⟩ : ∃ W, W = w1.alloc (.cells #[.string ⟨#[]⟩, .int .i64 0, .slice none 0 0] 34) := ⟨_, rfl⟩
  have z2 : Below w1.heap.size w1 w2 := by rw [hw2]; exact (Below.refl _ _).alloc (Nat.le_refl _) _
  have s2 : w2.heap.size = w1.heap.size + 1 := by rw [hw2]; simp
  have hb2 := on hb1 z2
  replace b_0 := (z2.cell (p := ⟨w.heap.size, 0, none⟩) (by simp only []; omega)).trans b_0
  replace b_1 := (z2.cell (p := ⟨w.heap.size, 1, none⟩) (by simp only []; omega)).trans b_1
  replace b_2 := (z2.cell (p := ⟨w.heap.size, 2, none⟩) (by simp only []; omega)).trans b_2
  replace b_3 := (z2.cell (p := ⟨w.heap.size, 3, none⟩) (by simp only []; omega)).trans b_3
  replace b_f0 := (z2.frozen (p := ⟨w.heap.size, 0, none⟩) (by simp only []; omega)).trans b_f0
  replace b_f1 := (z2.frozen (p := ⟨w.heap.size, 1, none⟩) (by simp only []; omega)).trans b_f1
  replace b_f2 := (z2.frozen (p := ⟨w.heap.size, 2, none⟩) (by simp only []; omega)).trans b_f2
  replace b_f3 := (z2.frozen (p := ⟨w.heap.size, 3, none⟩) (by simp only []; omega)).trans b_f3
  have e2 : w1.heap.size = w.heap.size + 1 := by omega
  have r_0 : w2.cell? ⟨w1.heap.size, 0, none⟩ = some (.string ⟨#[]⟩) := by rw [hw2]; exact box_cell (Below.refl _ _) rfl
  have r_1 : w2.cell? ⟨w1.heap.size, 1, none⟩ = some (.int .i64 0) := by rw [hw2]; exact box_cell (Below.refl _ _) rfl
  have r_2 : w2.cell? ⟨w1.heap.size, 2, none⟩ = some (.slice none 0 0) := by rw [hw2]; exact box_cell (Below.refl _ _) rfl
  rw [e2] at r_0 r_1 r_2
  have r_f0 : w2.frozen? ⟨w1.heap.size, 0, none⟩ = false := by rw [hw2]; exact box_frozen (Below.refl _ _)
  have r_f1 : w2.frozen? ⟨w1.heap.size, 1, none⟩ = false := by rw [hw2]; exact box_frozen (Below.refl _ _)
  have r_f2 : w2.frozen? ⟨w1.heap.size, 2, none⟩ = false := by rw [hw2]; exact box_frozen (Below.refl _ _)
  rw [e2] at r_f0 r_f1 r_f2
  have raw2_b_0 := b_0
  have raw2_b_1 := b_1
  have raw2_b_2 := b_2
  have raw2_b_3 := b_3
  have raw2_r_0 := r_0
  have raw2_r_1 := r_1
  have raw2_r_2 := r_2
  rw [hw2, hw1] at raw2_b_0 raw2_b_1 raw2_b_2 raw2_b_3 raw2_r_0 raw2_r_1 raw2_r_2
  obtain ⟨w3, hw3⟩ : ∃ W, W = w2.alloc (.cells #[.string s, .int .i64 ar, .slice none 0 0] 34) := ⟨_, rfl⟩
  have z3 : Below w2.heap.size w2 w3 := by rw [hw3]; exact (Below.refl _ _).alloc (Nat.le_refl _) _
  have s3 : w3.heap.size = w2.heap.size + 1 := by rw [hw3]; simp
  have hb3 := on hb2 z3
  replace b_0 := (z3.cell (p := ⟨w.heap.size, 0, none⟩) (by simp only []; omega)).trans b_0
  replace b_1 := (z3.cell (p := ⟨w.heap.size, 1, none⟩) (by simp only []; omega)).trans b_1
  replace b_2 := (z3.cell (p := ⟨w.heap.size, 2, none⟩) (by simp only []; omega)).trans b_2
  replace b_3 := (z3.cell (p := ⟨w.heap.size, 3, none⟩) (by simp only []; omega)).trans b_3
  replace b_f0 := (z3.frozen (p := ⟨w.heap.size, 0, none⟩) (by simp only []; omega)).trans b_f0
  replace b_f1 := (z3.frozen (p := ⟨w.heap.size, 1, none⟩) (by simp only []; omega)).trans b_f1
  replace b_f2 := (z3.frozen (p := ⟨w.heap.size, 2, none⟩) (by simp only []; omega)).trans b_f2
  replace b_f3 := (z3.frozen (p := ⟨w.heap.size, 3, none⟩) (by simp only []; omega)).trans b_f3
  replace r_0 := (z3.cell (p := ⟨w.heap.size + 1, 0, none⟩) (by simp only []; omega)).trans r_0
  replace r_1 := (z3.cell (p := ⟨w.heap.size + 1, 1, none⟩) (by simp only []; omega)).trans r_1
  replace r_2 := (z3.cell (p := ⟨w.heap.size + 1, 2, none⟩) (by simp only []; omega)).trans r_2
  replace r_f0 := (z3.frozen (p := ⟨w.heap.size + 1, 0, none⟩) (by simp only []; omega)).trans r_f0
  replace r_f1 := (z3.frozen (p := ⟨w.heap.size + 1, 1, none⟩) (by simp only []; omega)).trans r_f1
  replace r_f2 := (z3.frozen (p := ⟨w.heap.size + 1, 2, none⟩) (by simp only []; omega)).trans r_f2
  have e3 : w2.heap.size = w.heap.size + 1 + 1 := by omega
  have x_0 : w3.cell? ⟨w2.heap.size, 0, none⟩ = some (.string s) := by rw [hw3]; exact box_cell (Below.refl _ _) rfl
  have x_1 : w3.cell? ⟨w2.heap.size, 1, none⟩ = some (.int .i64 ar) := by rw [hw3]; exact box_cell (Below.refl _ _) rfl
  have x_2 : w3.cell? ⟨w2.heap.size, 2, none⟩ = some (.slice none 0 0) := by rw [hw3]; exact box_cell (Below.refl _ _) rfl
  rw [e3] at x_0 x_1 x_2
  have x_f0 : w3.frozen? ⟨w2.heap.size, 0, none⟩ = false := by rw [hw3]; exact box_frozen (Below.refl _ _)
  have x_f1 : w3.frozen? ⟨w2.heap.size, 1, none⟩ = false := by rw [hw3]; exact box_frozen (Below.refl _ _)
  have x_f2 : w3.frozen? ⟨w2.heap.size, 2, none⟩ = false := by rw [hw3]; exact box_frozen (Below.refl _ _)
  rw [e3] at x_f0 x_f1 x_f2
  have raw3_b_0 := b_0
  have raw3_b_1 := b_1
  have raw3_b_2 := b_2
  have raw3_b_3 := b_3
  have raw3_r_0 := r_0
  have raw3_r_1 := r_1
  have raw3_r_2 := r_2
  have raw3_x_0 := x_0
  have raw3_x_1 := x_1
  have raw3_x_2 := x_2
  rw [hw3, hw2, hw1] at raw3_b_0 raw3_b_1 raw3_b_2 raw3_b_3 raw3_r_0 raw3_r_1 raw3_r_2 raw3_x_0 raw3_x_1 raw3_x_2
  rcases Nat.eq_zero_or_pos un with h0 | h0
  · subst h0
    have hgs : gs = [] := List.eq_nil_of_length_eq_zero hl
    have hv5 : rII.rep w3 [.slice none 0 0] (lastV gs) := by
      rw [hgs]
      exact (own_nil_S (E := 24) (o := oI) (B := 0) (W := w3)).rd reads_II
    clear hl t3 hgs
    go_wp2_with fail
    rw [← hw1]
    rw [← hw2]
    rw [← hw3]
    clear hw3 hw2 hw1
    clear raw1_b_0 raw1_b_1 raw1_b_2 raw1_b_3 raw2_b_0 raw2_b_1 raw2_b_2 raw2_b_3 raw2_r_0 raw2_r_1 raw2_r_2 raw3_b_0 raw3_b_1 raw3_b_2 raw3_b_3 raw3_r_0 raw3_r_1 raw3_r_2 raw3_x_0 raw3_x_1 raw3_x_2
    obtain ⟨t, htd⟩ : ∃ t : DT, t = (s, ar, lastV gs) := ⟨_, rfl⟩
    have HT5 : Hid (∀ W, Below w3.heap.size w3 W → rT.rep W [.string s, .int .i64 ar, .slice none 0 0] t) := Lib.hid (fun W hW => rT.mono (by rw [htd]; exact rT_mk (x := (s, ar, lastV gs)) hs ⟨hi1, hi2⟩ hv5) hW)
    have HVS : Hid (validS (s, ar, rc0, gs) = (validT t && decide (statsOf t = (s, ar, rc0, gs)))) := Lib.hid (by rw [htd]; rfl)
    have HVT := Lib.hid (fun W hW => validT_impl _ t W (HT5.out W hW))
    have HST := Lib.hid (fun W hW => stats_impl _ t W (HT5.out W hW))
    obtain ⟨V, hV⟩ : ∃ V, validT t = V := ⟨_, rfl⟩
    simp only [hV] at HVT
    rw [hV] at HVS
    obtain ⟨vs, hvs⟩ : ∃ vs, validS (s, ar, rc0, gs) = vs := ⟨_, rfl⟩
    rw [hvs] at HVS
    have hb5 := hb3
    have hW5 : Below w3.heap.size w3 w3 := Below.refl _ _
    have hbd : Below w3.heap.size w3 w3.drew := hW5.drew
    clear htd hV hv5
    have HVSE := Lib.hid hvs
    clear hvs
    cases V with
    | false =>
      have HE : Hid (vs = false) := Lib.hid (by rw [HVS.out]; rfl)
      go_wp2_with fail
      refine wp_region_noPanic ?_
      refine wp_region_held_drew (S := (fun W => W.cell? ⟨w.heap.size + 1 + 1, 0, none⟩ = some (.string s) ∧ W.cell? ⟨w.heap.size + 1 + 1, 1, none⟩ = some (.int .i64 ar) ∧ W.cell? ⟨w.heap.size + 1 + 1, 2, none⟩ = some (.slice none 0 0) ∧ W.cell? ⟨w.heap.size, 0, none⟩ = some (.string s) ∧ W.cell? ⟨w.heap.size, 1, none⟩ = some (.int .i64 ar) ∧ W.cell? ⟨w.heap.size, 2, none⟩ = some (.int .i64 rc0) ∧ W.cell? ⟨w.heap.size, 3, none⟩ = some (.slice ub 0 uc))) (by kernel_rfl) ?hS4 (fun hHeld => ?_)
      case hS4 => exact ⟨x_0, x_1, x_2, b_0, b_1, b_2, b_3⟩
      refine wpAnyH_take (i := 0) (v := ?v0_5) rfl (by kernel_rfl) (by kernel_rfl) (by kernel_rfl) (fun _ _ _ h => h) (Or.inl ⟨by rfl, ?hy0_5⟩) (by assumption) ?rest0_5
      case hy0_5 => intro w hSw; (try dsimp only at hSw); go_simp; (try with_reducible rfl)
      try simp only [Act.put, List.getElem_toArray, List.getElem_cons_succ, List.getElem_cons_zero, List.setIfInBounds_toArray, List.set_cons_zero, List.set_cons_succ]
      refine wpAnyH_take (i := 1) (v := ?v1_6) rfl (by kernel_rfl) (by kernel_rfl) (by kernel_rfl) (fun _ _ _ h => h) (Or.inl ⟨by rfl, ?hy1_6⟩) (by assumption) ?rest1_6
      case hy1_6 => intro w hSw; (try dsimp only at hSw); go_simp; (try with_reducible rfl)
      try simp only [Act.put, List.getElem_toArray, List.getElem_cons_succ, List.getElem_cons_zero, List.setIfInBounds_toArray, List.set_cons_zero, List.set_cons_succ]
      refine wpAnyH_ready (rs := [2]) (by kernel_rfl) (by simp) ?_
      refine AllReadyH.cons rfl (fun K hK => ?_) AllReadyH.nil
      go_simp; (refine (HVT.out _ hbd).mono ?_); rintro e wA ⟨rfl, zA⟩; replace zA : Below w3.heap.size w3 wA := on (Below.refl _ _).drew zA; have sA := zA.size; have hSA := (⟨(zA.cell (p := ⟨w.heap.size + 1 + 1, 0, none⟩) (by simp only []; omega)).trans x_0, (zA.cell (p := ⟨w.heap.size + 1 + 1, 1, none⟩) (by simp only []; omega)).trans x_1, (zA.cell (p := ⟨w.heap.size + 1 + 1, 2, none⟩) (by simp only []; omega)).trans x_2, (zA.cell (p := ⟨w.heap.size, 0, none⟩) (by simp only []; omega)).trans b_0, (zA.cell (p := ⟨w.heap.size, 1, none⟩) (by simp only []; omega)).trans b_1, (zA.cell (p := ⟨w.heap.size, 2, none⟩) (by simp only []; omega)).trans b_2, (zA.cell (p := ⟨w.heap.size, 3, none⟩) (by simp only []; omega)).trans b_3⟩ : (fun W => W.cell? ⟨w.heap.size + 1 + 1, 0, none⟩ = some (.string s) ∧ W.cell? ⟨w.heap.size + 1 + 1, 1, none⟩ = some (.int .i64 ar) ∧ W.cell? ⟨w.heap.size + 1 + 1, 2, none⟩ = some (.slice none 0 0) ∧ W.cell? ⟨w.heap.size, 0, none⟩ = some (.string s) ∧ W.cell? ⟨w.heap.size, 1, none⟩ = some (.int .i64 ar) ∧ W.cell? ⟨w.heap.size, 2, none⟩ = some (.int .i64 rc0) ∧ W.cell? ⟨w.heap.size, 3, none⟩ = some (.slice ub 0 uc)) wA)
      refine hK.out _ _ ?_ (fun hHeld => ?_)
      · exact hSA
      clear hK K
      try simp only [Act.put, List.setIfInBounds_toArray, List.set_cons_zero, List.set_cons_succ]
      refine wpAnyH_take (i := 3) (v := ?v3_7) rfl (by kernel_rfl) (by kernel_rfl) (by kernel_rfl) (fun _ _ _ h => h) (Or.inl ⟨by rfl, ?hy3_7⟩) (by assumption) ?rest3_7
      case hy3_7 => intro w hSw; (try dsimp only at hSw); go_simp; (try with_reducible rfl)
      try simp only [Act.put, List.getElem_toArray, List.getElem_cons_succ, List.getElem_cons_zero, List.setIfInBounds_toArray, List.set_cons_zero, List.set_cons_succ]
      refine wpAnyH_take (i := 4) (v := undef) rfl (by kernel_rfl) (by kernel_rfl) (by kernel_rfl) (fun _ _ _ h => h) (Or.inr ⟨by rfl, rfl⟩) (by assumption) ?_
      try simp only [Act.put, List.getElem_toArray, List.getElem_cons_succ, List.getElem_cons_zero, List.setIfInBounds_toArray, List.set_cons_zero, List.set_cons_succ]
      refine wpAnyH_take (i := 5) (v := undef) rfl (by kernel_rfl) (by kernel_rfl) (by kernel_rfl) (fun _ _ _ h => h) (Or.inr ⟨by rfl, rfl⟩) (by assumption) ?_
      try simp only [Act.put, List.getElem_toArray, List.getElem_cons_succ, List.getElem_cons_zero, List.setIfInBounds_toArray, List.set_cons_zero, List.set_cons_succ]
      refine wpAnyH_take (i := 6) (v := undef) rfl (by kernel_rfl) (by kernel_rfl) (by kernel_rfl) (fun _ _ _ h => h) (Or.inr ⟨by rfl, rfl⟩) (by assumption) ?_
      try simp only [Act.put, List.getElem_toArray, List.getElem_cons_succ, List.getElem_cons_zero, List.setIfInBounds_toArray, List.set_cons_zero, List.set_cons_succ]
      refine wpAnyH_take (i := 7) (v := undef) rfl (by kernel_rfl) (by kernel_rfl) (by kernel_rfl) (fun _ _ _ h => h) (Or.inr ⟨by rfl, rfl⟩) (by assumption) ?_
      try simp only [Act.put, List.getElem_toArray, List.getElem_cons_succ, List.getElem_cons_zero, List.setIfInBounds_toArray, List.set_cons_zero, List.set_cons_succ]
      refine wpAnyH_take (i := 8) (v := ?v8_8) rfl (by kernel_rfl) (by kernel_rfl) (by kernel_rfl) (fun _ _ _ h => h) (Or.inl ⟨by rfl, ?hy8_8⟩) (by assumption) ?rest8_8
      case hy8_8 => intro w hSw; (try dsimp only at hSw); go_simp; (try with_reducible rfl)
      try simp only [Act.put, List.getElem_toArray, List.getElem_cons_succ, List.getElem_cons_zero, List.setIfInBounds_toArray, List.set_cons_zero, List.set_cons_succ]
      have q_0 := (zA.cell (p := ⟨w.heap.size + 1, 0, none⟩) (by simp only []; omega)).trans r_0
      have q_f0 := (zA.frozen (p := ⟨w.heap.size + 1, 0, none⟩) (by simp only []; omega)).trans r_f0
      have q_1 := (zA.cell (p := ⟨w.heap.size + 1, 1, none⟩) (by simp only []; omega)).trans r_1
      have q_f1 := (zA.frozen (p := ⟨w.heap.size + 1, 1, none⟩) (by simp only []; omega)).trans r_f1
      have q_2 := (zA.cell (p := ⟨w.heap.size + 1, 2, none⟩) (by simp only []; omega)).trans r_2
      have q_f2 := (zA.frozen (p := ⟨w.heap.size + 1, 2, none⟩) (by simp only []; omega)).trans r_f2
      obtain ⟨h_0, h_1, h_2, h_3, h_4, h_5, h_6⟩ := hSA
      refine wpAnyH_ready (rs := [9]) (by kernel_rfl) (by simp) ?_
      refine AllReadyH.cons rfl (fun K hK => ?_) AllReadyH.nil
      go_simp
      refine hK.out _ _ ?_ (fun hHeld => ?_)
      · (refine ⟨?_, ?_, ?_, ?_, ?_, ?_, ?_⟩ <;> go_simp)
      clear hK K
      try simp only [Act.put, List.setIfInBounds_toArray, List.set_cons_zero, List.set_cons_succ]
      refine wpAnyH_take (i := 10) (v := ?v10_9) rfl (by kernel_rfl) (by kernel_rfl) (by kernel_rfl) (fun _ _ _ h => h) (Or.inl ⟨by rfl, ?hy10_9⟩) (by assumption) ?rest10_9
      case hy10_9 => intro w hSw; (try dsimp only at hSw); go_simp; (try with_reducible rfl)
      try simp only [Act.put, List.getElem_toArray, List.getElem_cons_succ, List.getElem_cons_zero, List.setIfInBounds_toArray, List.set_cons_zero, List.set_cons_succ]
      refine wpAnyH_done (by kernel_rfl) ?_ _
      refine NoPanic.normal ?_
      go_wp2_with fail
      have hbE := on hb5 zA
      refine bodyPost_ret (v := .tuple #[.agg #[.string s, .int .i64 ar, .slice none 0 0], .bool false]) (by simp [results, Try.results164, go_sem, q_0, q_1, q_2, q_f0, q_f1, q_f2]) rfl ⟨_, _, _, by rw [HVSE.out, HE.out], ?_⟩
      repeat (refine Below.setCell ?_ (by simp only []; omega) _)
      exact hbE
    | true =>
      go_wp2_with fail
      refine wp_region_noPanic ?_
      refine wp_region_held_drew (S := (fun W => W.cell? ⟨w.heap.size + 1 + 1, 0, none⟩ = some (.string s) ∧ W.cell? ⟨w.heap.size + 1 + 1, 1, none⟩ = some (.int .i64 ar) ∧ W.cell? ⟨w.heap.size + 1 + 1, 2, none⟩ = some (.slice none 0 0) ∧ W.cell? ⟨w.heap.size, 0, none⟩ = some (.string s) ∧ W.cell? ⟨w.heap.size, 1, none⟩ = some (.int .i64 ar) ∧ W.cell? ⟨w.heap.size, 2, none⟩ = some (.int .i64 rc0) ∧ W.cell? ⟨w.heap.size, 3, none⟩ = some (.slice ub 0 uc))) (by kernel_rfl) ?hS10 (fun hHeld => ?_)
      case hS10 => exact ⟨x_0, x_1, x_2, b_0, b_1, b_2, b_3⟩
      refine wpAnyH_take (i := 0) (v := ?v0_11) rfl (by kernel_rfl) (by kernel_rfl) (by kernel_rfl) (fun _ _ _ h => h) (Or.inl ⟨by rfl, ?hy0_11⟩) (by assumption) ?rest0_11
      case hy0_11 => intro w hSw; (try dsimp only at hSw); go_simp; (try with_reducible rfl)
      try simp only [Act.put, List.getElem_toArray, List.getElem_cons_succ, List.getElem_cons_zero, List.setIfInBounds_toArray, List.set_cons_zero, List.set_cons_succ]
      refine wpAnyH_take (i := 1) (v := ?v1_12) rfl (by kernel_rfl) (by kernel_rfl) (by kernel_rfl) (fun _ _ _ h => h) (Or.inl ⟨by rfl, ?hy1_12⟩) (by assumption) ?rest1_12
      case hy1_12 => intro w hSw; (try dsimp only at hSw); go_simp; (try with_reducible rfl)
      try simp only [Act.put, List.getElem_toArray, List.getElem_cons_succ, List.getElem_cons_zero, List.setIfInBounds_toArray, List.set_cons_zero, List.set_cons_succ]
      refine wpAnyH_ready (rs := [2]) (by kernel_rfl) (by simp) ?_
      refine AllReadyH.cons rfl (fun K hK => ?_) AllReadyH.nil
      go_simp; (refine (HVT.out _ hbd).mono ?_); rintro e wA ⟨rfl, zA⟩; replace zA : Below w3.heap.size w3 wA := on (Below.refl _ _).drew zA; have sA := zA.size; have hSA := (⟨(zA.cell (p := ⟨w.heap.size + 1 + 1, 0, none⟩) (by simp only []; omega)).trans x_0, (zA.cell (p := ⟨w.heap.size + 1 + 1, 1, none⟩) (by simp only []; omega)).trans x_1, (zA.cell (p := ⟨w.heap.size + 1 + 1, 2, none⟩) (by simp only []; omega)).trans x_2, (zA.cell (p := ⟨w.heap.size, 0, none⟩) (by simp only []; omega)).trans b_0, (zA.cell (p := ⟨w.heap.size, 1, none⟩) (by simp only []; omega)).trans b_1, (zA.cell (p := ⟨w.heap.size, 2, none⟩) (by simp only []; omega)).trans b_2, (zA.cell (p := ⟨w.heap.size, 3, none⟩) (by simp only []; omega)).trans b_3⟩ : (fun W => W.cell? ⟨w.heap.size + 1 + 1, 0, none⟩ = some (.string s) ∧ W.cell? ⟨w.heap.size + 1 + 1, 1, none⟩ = some (.int .i64 ar) ∧ W.cell? ⟨w.heap.size + 1 + 1, 2, none⟩ = some (.slice none 0 0) ∧ W.cell? ⟨w.heap.size, 0, none⟩ = some (.string s) ∧ W.cell? ⟨w.heap.size, 1, none⟩ = some (.int .i64 ar) ∧ W.cell? ⟨w.heap.size, 2, none⟩ = some (.int .i64 rc0) ∧ W.cell? ⟨w.heap.size, 3, none⟩ = some (.slice ub 0 uc)) wA)
      refine hK.out _ _ ?_ (fun hHeld => ?_)
      · exact hSA
      clear hK K
      try simp only [Act.put, List.setIfInBounds_toArray, List.set_cons_zero, List.set_cons_succ]
      refine wpAnyH_take (i := 3) (v := ?v3_13) rfl (by kernel_rfl) (by kernel_rfl) (by kernel_rfl) (fun _ _ _ h => h) (Or.inl ⟨by rfl, ?hy3_13⟩) (by assumption) ?rest3_13
      case hy3_13 => intro w hSw; (try dsimp only at hSw); go_simp; (try with_reducible rfl)
      try simp only [Act.put, List.getElem_toArray, List.getElem_cons_succ, List.getElem_cons_zero, List.setIfInBounds_toArray, List.set_cons_zero, List.set_cons_succ]
      refine wpAnyH_take (i := 4) (v := ?v4_14) rfl (by kernel_rfl) (by kernel_rfl) (by kernel_rfl) (fun _ _ _ h => h) (Or.inl ⟨by rfl, ?hy4_14⟩) (by assumption) ?rest4_14
      case hy4_14 => intro w hSw; (try dsimp only at hSw); go_simp; (try with_reducible rfl)
      try simp only [Act.put, List.getElem_toArray, List.getElem_cons_succ, List.getElem_cons_zero, List.setIfInBounds_toArray, List.set_cons_zero, List.set_cons_succ]
      refine wpAnyH_take (i := 6) (v := ?v6_15) rfl (by kernel_rfl) (by kernel_rfl) (by kernel_rfl) (fun _ _ _ h => h) (Or.inl ⟨by rfl, ?hy6_15⟩) (by assumption) ?rest6_15
      case hy6_15 => intro w hSw; (try dsimp only at hSw); go_simp; (try with_reducible rfl)
      try simp only [Act.put, List.getElem_toArray, List.getElem_cons_succ, List.getElem_cons_zero, List.setIfInBounds_toArray, List.set_cons_zero, List.set_cons_succ]
      refine wpAnyH_ready (rs := [5]) (by kernel_rfl) (by simp) ?_
      refine AllReadyH.cons rfl (fun K hK => ?_) AllReadyH.nil
      go_simp; (refine (HST.out _ zA).mono ?_); rintro e wB ⟨dsB, rfl, oB, zB⟩; obtain ⟨ub3, un3, uc3, rfl⟩ := oTs_form oB; have sB := zB.size; have zAB := on zA zB; have hSB := (⟨(zB.cell (p := ⟨w.heap.size + 1 + 1, 0, none⟩) (by simp only []; omega)).trans hSA.1, (zB.cell (p := ⟨w.heap.size + 1 + 1, 1, none⟩) (by simp only []; omega)).trans hSA.2.1, (zB.cell (p := ⟨w.heap.size + 1 + 1, 2, none⟩) (by simp only []; omega)).trans hSA.2.2.1, (zB.cell (p := ⟨w.heap.size, 0, none⟩) (by simp only []; omega)).trans hSA.2.2.2.1, (zB.cell (p := ⟨w.heap.size, 1, none⟩) (by simp only []; omega)).trans hSA.2.2.2.2.1, (zB.cell (p := ⟨w.heap.size, 2, none⟩) (by simp only []; omega)).trans hSA.2.2.2.2.2.1, (zB.cell (p := ⟨w.heap.size, 3, none⟩) (by simp only []; omega)).trans hSA.2.2.2.2.2.2⟩ : (fun W => W.cell? ⟨w.heap.size + 1 + 1, 0, none⟩ = some (.string s) ∧ W.cell? ⟨w.heap.size + 1 + 1, 1, none⟩ = some (.int .i64 ar) ∧ W.cell? ⟨w.heap.size + 1 + 1, 2, none⟩ = some (.slice none 0 0) ∧ W.cell? ⟨w.heap.size, 0, none⟩ = some (.string s) ∧ W.cell? ⟨w.heap.size, 1, none⟩ = some (.int .i64 ar) ∧ W.cell? ⟨w.heap.size, 2, none⟩ = some (.int .i64 rc0) ∧ W.cell? ⟨w.heap.size, 3, none⟩ = some (.slice ub 0 uc)) wB)
      refine hK.out _ _ ?_ (fun hHeld => ?_)
      · exact hSB
      clear hK K
      try simp only [Act.put, List.setIfInBounds_toArray, List.set_cons_zero, List.set_cons_succ]
      refine wpAnyH_ready (rs := [7]) (by kernel_rfl) (by simp) ?_
      refine AllReadyH.cons rfl (fun K hK => ?_) AllReadyH.nil
      go_simp; (refine (equalTs_impl _ _ (statsOf t) (s, ar, rc0, gs) _ (oB.rd reads_Ts) (HX.out _ (on hb5 zAB))).mono ?_); rintro e wC ⟨rfl, zC⟩; have sC := zC.size; have zAC := on zAB zC; have hSC := (⟨(zC.cell (p := ⟨w.heap.size + 1 + 1, 0, none⟩) (by simp only []; omega)).trans hSB.1, (zC.cell (p := ⟨w.heap.size + 1 + 1, 1, none⟩) (by simp only []; omega)).trans hSB.2.1, (zC.cell (p := ⟨w.heap.size + 1 + 1, 2, none⟩) (by simp only []; omega)).trans hSB.2.2.1, (zC.cell (p := ⟨w.heap.size, 0, none⟩) (by simp only []; omega)).trans hSB.2.2.2.1, (zC.cell (p := ⟨w.heap.size, 1, none⟩) (by simp only []; omega)).trans hSB.2.2.2.2.1, (zC.cell (p := ⟨w.heap.size, 2, none⟩) (by simp only []; omega)).trans hSB.2.2.2.2.2.1, (zC.cell (p := ⟨w.heap.size, 3, none⟩) (by simp only []; omega)).trans hSB.2.2.2.2.2.2⟩ : (fun W => W.cell? ⟨w.heap.size + 1 + 1, 0, none⟩ = some (.string s) ∧ W.cell? ⟨w.heap.size + 1 + 1, 1, none⟩ = some (.int .i64 ar) ∧ W.cell? ⟨w.heap.size + 1 + 1, 2, none⟩ = some (.slice none 0 0) ∧ W.cell? ⟨w.heap.size, 0, none⟩ = some (.string s) ∧ W.cell? ⟨w.heap.size, 1, none⟩ = some (.int .i64 ar) ∧ W.cell? ⟨w.heap.size, 2, none⟩ = some (.int .i64 rc0) ∧ W.cell? ⟨w.heap.size, 3, none⟩ = some (.slice ub 0 uc)) wC)
      refine hK.out _ _ ?_ (fun hHeld => ?_)
      · exact hSC
      clear hK K
      try simp only [Act.put, List.setIfInBounds_toArray, List.set_cons_zero, List.set_cons_succ]
      refine wpAnyH_take (i := 8) (v := ?v8_16) rfl (by kernel_rfl) (by kernel_rfl) (by kernel_rfl) (fun _ _ _ h => h) (Or.inl ⟨by rfl, ?hy8_16⟩) (by assumption) ?rest8_16
      case hy8_16 => intro w hSw; (try dsimp only at hSw); go_simp; (try with_reducible rfl)
      try simp only [Act.put, List.getElem_toArray, List.getElem_cons_succ, List.getElem_cons_zero, List.setIfInBounds_toArray, List.set_cons_zero, List.set_cons_succ]
      have HE : Hid (vs = decide (statsOf t = (s, ar, rc0, gs))) := Lib.hid (by rw [HVS.out]; rfl)
      have q_0 := (zAC.cell (p := ⟨w.heap.size + 1, 0, none⟩) (by simp only []; omega)).trans r_0
      have q_f0 := (zAC.frozen (p := ⟨w.heap.size + 1, 0, none⟩) (by simp only []; omega)).trans r_f0
      have q_1 := (zAC.cell (p := ⟨w.heap.size + 1, 1, none⟩) (by simp only []; omega)).trans r_1
      have q_f1 := (zAC.frozen (p := ⟨w.heap.size + 1, 1, none⟩) (by simp only []; omega)).trans r_f1
      have q_2 := (zAC.cell (p := ⟨w.heap.size + 1, 2, none⟩) (by simp only []; omega)).trans r_2
      have q_f2 := (zAC.frozen (p := ⟨w.heap.size + 1, 2, none⟩) (by simp only []; omega)).trans r_f2
      obtain ⟨h_0, h_1, h_2, h_3, h_4, h_5, h_6⟩ := hSC
      refine wpAnyH_ready (rs := [9]) (by kernel_rfl) (by simp) ?_
      refine AllReadyH.cons rfl (fun K hK => ?_) AllReadyH.nil
      go_simp
      refine hK.out _ _ ?_ (fun hHeld => ?_)
      · (refine ⟨?_, ?_, ?_, ?_, ?_, ?_, ?_⟩ <;> go_simp)
      clear hK K
      try simp only [Act.put, List.setIfInBounds_toArray, List.set_cons_zero, List.set_cons_succ]
      refine wpAnyH_take (i := 10) (v := ?v10_17) rfl (by kernel_rfl) (by kernel_rfl) (by kernel_rfl) (fun _ _ _ h => h) (Or.inl ⟨by rfl, ?hy10_17⟩) (by assumption) ?rest10_17
      case hy10_17 => intro w hSw; (try dsimp only at hSw); go_simp; (try with_reducible rfl)
      try simp only [Act.put, List.getElem_toArray, List.getElem_cons_succ, List.getElem_cons_zero, List.setIfInBounds_toArray, List.set_cons_zero, List.set_cons_succ]
      refine wpAnyH_done (by kernel_rfl) ?_ _
      refine NoPanic.normal ?_
      go_wp2_with fail
      have hbE := on hb5 zAC
      refine bodyPost_ret (v := .tuple #[.agg #[.string s, .int .i64 ar, .slice none 0 0], .bool (decide (statsOf t = (s, ar, rc0, gs)))]) (by simp [results, Try.results164, go_sem, q_0, q_1, q_2, q_f0, q_f1, q_f2]) rfl ⟨_, _, _, by rw [HVSE.out, HE.out], ?_⟩
      repeat (refine Below.setCell ?_ (by simp only []; omega) _)
      exact hbE
  · obtain ⟨m, rfl⟩ : ∃ m, un = m + 1 := ⟨un - 1, by omega⟩
    obtain ⟨b0, o0, csg, g, rfl, hx, hr, hc⟩ := t3.at (show m < m + 1 by omega)
    obtain ⟨gb0, gn0, gc0, gb1, gn1, gc1, gb2, gn2, gc2, rfl, k0, k1, k2⟩ := rGs_open hr
    have e_lt : b0 < w.heap.size := cell_lt (hc 0 _ rfl)
    have e_0 : w3.cell? ⟨b0, o0 + m * 3, none⟩ = some (.slice gb0 gn0 gc0) := (hb3.cell (p := ⟨b0, o0 + m * 3, none⟩) e_lt).trans (by have h9 := hc 0 _ rfl; rw [← Nat.add_assoc] at h9; exact h9)
    have e_1 : w3.cell? ⟨b0, o0 + m * 3 + 1, none⟩ = some (.slice gb1 gn1 gc1) := (hb3.cell (p := ⟨b0, o0 + m * 3 + 1, none⟩) e_lt).trans (by have h9 := hc 1 _ rfl; rw [← Nat.add_assoc] at h9; exact h9)
    have e_2 : w3.cell? ⟨b0, o0 + m * 3 + 2, none⟩ = some (.slice gb2 gn2 gc2) := (hb3.cell (p := ⟨b0, o0 + m * 3 + 2, none⟩) e_lt).trans (by have h9 := hc 2 _ rfl; rw [← Nat.add_assoc] at h9; exact h9)
    have hlv : lastV gs = g.2.1 := by
      have h9 := hx.out
      unfold lastV
      rw [List.getLast?_eq_getElem?, hl, show m + 1 - 1 = m by omega, h9]
    have hbu : bulk_II g.2.1 ≤ 100000000 := by
      have h9 := sumBy_mem bulk_Gs hx.out
      have h8 : bulk_II g.2.1 ≤ bulk_Gs g := by unfold bulk_Gs; omega
      unfold bulk_Ts bulk_Gl at hb
      simp only at hb
      omega
    have HLV := Lib.hid hlv
    have hmi : ((m : Int) + 1 - 1) = (m : Int) := by omega
    have HK1 := Lib.hid (fun W (hW : Below w.heap.size w W) => rII.mono k1 hW)
    have rawe := e_1
    rw [hw3, hw2, hw1] at rawe
    clear hl t3 hx hr hc k0 k1 k2 hlv hmi
    go_wp2_with fail
    rw [← hw1]
    rw [← hw2]
    rw [← hw3]
    clear hw3 hw2 hw1
    clear raw1_b_0 raw1_b_1 raw1_b_2 raw1_b_3 raw2_b_0 raw2_b_1 raw2_b_2 raw2_b_3 raw2_r_0 raw2_r_1 raw2_r_2 raw3_b_0 raw3_b_1 raw3_b_2 raw3_b_3 raw3_r_0 raw3_r_1 raw3_r_2 raw3_x_0 raw3_x_1 raw3_x_2
    clear rawe
    refine (copyRows_any _ g.2.1 _ (HK1.out _ hb3) hbu).mono ?_
    rintro e w8 ⟨u, rfl, o5, z8⟩
    obtain ⟨vb, vn, vc, rfl⟩ := oII_form1 o5
    have s18 := z8.size
    have hb18 := on hb3 z8
    replace b_0 := (z8.cell (p := ⟨w.heap.size, 0, none⟩) (by simp only []; omega)).trans b_0
    replace b_1 := (z8.cell (p := ⟨w.heap.size, 1, none⟩) (by simp only []; omega)).trans b_1
    replace b_2 := (z8.cell (p := ⟨w.heap.size, 2, none⟩) (by simp only []; omega)).trans b_2
    replace b_3 := (z8.cell (p := ⟨w.heap.size, 3, none⟩) (by simp only []; omega)).trans b_3
    replace b_f0 := (z8.frozen (p := ⟨w.heap.size, 0, none⟩) (by simp only []; omega)).trans b_f0
    replace b_f1 := (z8.frozen (p := ⟨w.heap.size, 1, none⟩) (by simp only []; omega)).trans b_f1
    replace b_f2 := (z8.frozen (p := ⟨w.heap.size, 2, none⟩) (by simp only []; omega)).trans b_f2
    replace b_f3 := (z8.frozen (p := ⟨w.heap.size, 3, none⟩) (by simp only []; omega)).trans b_f3
    replace r_0 := (z8.cell (p := ⟨w.heap.size + 1, 0, none⟩) (by simp only []; omega)).trans r_0
    replace r_1 := (z8.cell (p := ⟨w.heap.size + 1, 1, none⟩) (by simp only []; omega)).trans r_1
    replace r_2 := (z8.cell (p := ⟨w.heap.size + 1, 2, none⟩) (by simp only []; omega)).trans r_2
    replace r_f0 := (z8.frozen (p := ⟨w.heap.size + 1, 0, none⟩) (by simp only []; omega)).trans r_f0
    replace r_f1 := (z8.frozen (p := ⟨w.heap.size + 1, 1, none⟩) (by simp only []; omega)).trans r_f1
    replace r_f2 := (z8.frozen (p := ⟨w.heap.size + 1, 2, none⟩) (by simp only []; omega)).trans r_f2
    replace x_0 := (z8.cell (p := ⟨w.heap.size + 1 + 1, 0, none⟩) (by simp only []; omega)).trans x_0
    replace x_1 := (z8.cell (p := ⟨w.heap.size + 1 + 1, 1, none⟩) (by simp only []; omega)).trans x_1
    replace x_2 := (z8.cell (p := ⟨w.heap.size + 1 + 1, 2, none⟩) (by simp only []; omega)).trans x_2
    replace x_f0 := (z8.frozen (p := ⟨w.heap.size + 1 + 1, 0, none⟩) (by simp only []; omega)).trans x_f0
    replace x_f1 := (z8.frozen (p := ⟨w.heap.size + 1 + 1, 1, none⟩) (by simp only []; omega)).trans x_f1
    replace x_f2 := (z8.frozen (p := ⟨w.heap.size + 1 + 1, 2, none⟩) (by simp only []; omega)).trans x_f2
    replace e_0 := (z8.cell (p := ⟨b0, o0 + m * 3, none⟩) (by simp only []; omega)).trans e_0
    replace e_1 := (z8.cell (p := ⟨b0, o0 + m * 3 + 1, none⟩) (by simp only []; omega)).trans e_1
    replace e_2 := (z8.cell (p := ⟨b0, o0 + m * 3 + 2, none⟩) (by simp only []; omega)).trans e_2
    have n0 : (w8.setCell ⟨w.heap.size + 1 + 1, 2, none⟩ (.slice vb vn vc)).cell? ⟨w.heap.size + 1 + 1, 0, none⟩ = some (.string s) := by go_simp
    have n1 : (w8.setCell ⟨w.heap.size + 1 + 1, 2, none⟩ (.slice vb vn vc)).cell? ⟨w.heap.size + 1 + 1, 1, none⟩ = some (.int .i64 ar) := by go_simp
    have n2 : (w8.setCell ⟨w.heap.size + 1 + 1, 2, none⟩ (.slice vb vn vc)).cell? ⟨w.heap.size + 1 + 1, 2, none⟩ = some (.slice vb vn vc) := by go_simp
    have hb9 : Below w.heap.size w (w8.setCell ⟨w.heap.size + 1 + 1, 2, none⟩ (.slice vb vn vc)) := hb18.setCell (by simp only []; omega) _
    have o9 : Own oII w3.heap.size w8.heap.size (w8.setCell ⟨w.heap.size + 1 + 1, 2, none⟩ (.slice vb vn vc)) [.slice vb vn vc] g.2.1 := o5.setOut rfl (by simp only []; omega)
    have c9 : ∀ (k i : Nat) (x : Value), k ≠ w.heap.size + 1 + 1 → w8.cell? ⟨k, i, none⟩ = some x → (w8.setCell ⟨w.heap.size + 1 + 1, 2, none⟩ (.slice vb vn vc)).cell? ⟨k, i, none⟩ = some x := fun k i x hk hx => cell_set hx hk
    have f9 : ∀ (k i : Nat), k ≠ w.heap.size + 1 + 1 → w8.frozen? ⟨k, i, none⟩ = false → (w8.setCell ⟨w.heap.size + 1 + 1, 2, none⟩ (.slice vb vn vc)).frozen? ⟨k, i, none⟩ = false := fun k i hk hx => (World.frozen?_of_block (a := ⟨k, i, none⟩) (Below.heap_setCell _ _ _ _ hk)).trans hx
    have s9 : w8.heap.size ≤ (w8.setCell ⟨w.heap.size + 1 + 1, 2, none⟩ (.slice vb vn vc)).heap.size := by simp [World.setCell]
    have N0 := Lib.hid n0
    have N1 := Lib.hid n1
    have N2 := Lib.hid n2
    have C9 := Lib.hid c9
    have F9 := Lib.hid f9
    have S9 := Lib.hid s9
    have B9 := Lib.hid hb9
    have O9 := Lib.hid o9
    clear n0 n1 n2 c9 f9 s9 hb9 o9 o5
    go_wp2_with fail
    obtain ⟨W5, hW9⟩ : ∃ W, W = w8.setCell ⟨w.heap.size + 1 + 1, 2, none⟩ (.slice vb vn vc) := ⟨_, rfl⟩
    rw [← hW9] at N0 N1 N2 C9 F9 S9 B9 O9 ⊢
    have hv5 : rII.rep W5 [.slice vb vn vc] (lastV gs) := by rw [HLV.out]; exact O9.out.rd reads_II
    replace b_0 := C9.out _ _ _ (by omega) b_0
    replace b_1 := C9.out _ _ _ (by omega) b_1
    replace b_2 := C9.out _ _ _ (by omega) b_2
    replace b_3 := C9.out _ _ _ (by omega) b_3
    replace r_0 := C9.out _ _ _ (by omega) r_0
    replace r_1 := C9.out _ _ _ (by omega) r_1
    replace r_2 := C9.out _ _ _ (by omega) r_2
    replace r_f0 := F9.out _ _ (by omega) r_f0
    replace r_f1 := F9.out _ _ (by omega) r_f1
    replace r_f2 := F9.out _ _ (by omega) r_f2
    replace x_0 := N0.out
    replace x_1 := N1.out
    replace x_2 := N2.out
    have b9 := B9.out
    have s9 := S9.out
    clear hW9 N0 N1 N2 C9 F9 S9 B9 O9
    obtain ⟨t, htd⟩ : ∃ t : DT, t = (s, ar, lastV gs) := ⟨_, rfl⟩
    have HT5 : Hid (∀ W, Below W5.heap.size W5 W → rT.rep W [.string s, .int .i64 ar, .slice vb vn vc] t) := Lib.hid (fun W hW => rT.mono (by rw [htd]; exact rT_mk (x := (s, ar, lastV gs)) hs ⟨hi1, hi2⟩ hv5) hW)
    have HVS : Hid (validS (s, ar, rc0, gs) = (validT t && decide (statsOf t = (s, ar, rc0, gs)))) := Lib.hid (by rw [htd]; rfl)
    have HVT := Lib.hid (fun W hW => validT_impl _ t W (HT5.out W hW))
    have HST := Lib.hid (fun W hW => stats_impl _ t W (HT5.out W hW))
    obtain ⟨V, hV⟩ : ∃ V, validT t = V := ⟨_, rfl⟩
    simp only [hV] at HVT
    rw [hV] at HVS
    obtain ⟨vs, hvs⟩ : ∃ vs, validS (s, ar, rc0, gs) = vs := ⟨_, rfl⟩
    rw [hvs] at HVS
    have hb5 := b9
    have hW5 : Below W5.heap.size W5 W5 := Below.refl _ _
    have hbd : Below W5.heap.size W5 W5.drew := hW5.drew
    clear htd hV hv5
    have HVSE := Lib.hid hvs
    clear hvs
    cases V with
    | false =>
      have HE : Hid (vs = false) := Lib.hid (by rw [HVS.out]; rfl)
      go_wp2_with fail
      refine wp_region_noPanic ?_
      refine wp_region_held_drew (S := (fun W => W.cell? ⟨w.heap.size + 1 + 1, 0, none⟩ = some (.string s) ∧ W.cell? ⟨w.heap.size + 1 + 1, 1, none⟩ = some (.int .i64 ar) ∧ W.cell? ⟨w.heap.size + 1 + 1, 2, none⟩ = some (.slice vb vn vc) ∧ W.cell? ⟨w.heap.size, 0, none⟩ = some (.string s) ∧ W.cell? ⟨w.heap.size, 1, none⟩ = some (.int .i64 ar) ∧ W.cell? ⟨w.heap.size, 2, none⟩ = some (.int .i64 rc0) ∧ W.cell? ⟨w.heap.size, 3, none⟩ = some (.slice (some ⟨b0, o0, none⟩) (m + 1) uc))) (by kernel_rfl) ?hS19 (fun hHeld => ?_)
      case hS19 => exact ⟨x_0, x_1, x_2, b_0, b_1, b_2, b_3⟩
      refine wpAnyH_take (i := 0) (v := ?v0_20) rfl (by kernel_rfl) (by kernel_rfl) (by kernel_rfl) (fun _ _ _ h => h) (Or.inl ⟨by rfl, ?hy0_20⟩) (by assumption) ?rest0_20
      case hy0_20 => intro w hSw; (try dsimp only at hSw); go_simp; (try with_reducible rfl)
      try simp only [Act.put, List.getElem_toArray, List.getElem_cons_succ, List.getElem_cons_zero, List.setIfInBounds_toArray, List.set_cons_zero, List.set_cons_succ]
      refine wpAnyH_take (i := 1) (v := ?v1_21) rfl (by kernel_rfl) (by kernel_rfl) (by kernel_rfl) (fun _ _ _ h => h) (Or.inl ⟨by rfl, ?hy1_21⟩) (by assumption) ?rest1_21
      case hy1_21 => intro w hSw; (try dsimp only at hSw); go_simp; (try with_reducible rfl)
      try simp only [Act.put, List.getElem_toArray, List.getElem_cons_succ, List.getElem_cons_zero, List.setIfInBounds_toArray, List.set_cons_zero, List.set_cons_succ]
      refine wpAnyH_ready (rs := [2]) (by kernel_rfl) (by simp) ?_
      refine AllReadyH.cons rfl (fun K hK => ?_) AllReadyH.nil
      go_simp; (refine (HVT.out _ hbd).mono ?_); rintro e wA ⟨rfl, zA⟩; replace zA : Below W5.heap.size W5 wA := on (Below.refl _ _).drew zA; have sA := zA.size; have hSA := (⟨(zA.cell (p := ⟨w.heap.size + 1 + 1, 0, none⟩) (by simp only []; omega)).trans x_0, (zA.cell (p := ⟨w.heap.size + 1 + 1, 1, none⟩) (by simp only []; omega)).trans x_1, (zA.cell (p := ⟨w.heap.size + 1 + 1, 2, none⟩) (by simp only []; omega)).trans x_2, (zA.cell (p := ⟨w.heap.size, 0, none⟩) (by simp only []; omega)).trans b_0, (zA.cell (p := ⟨w.heap.size, 1, none⟩) (by simp only []; omega)).trans b_1, (zA.cell (p := ⟨w.heap.size, 2, none⟩) (by simp only []; omega)).trans b_2, (zA.cell (p := ⟨w.heap.size, 3, none⟩) (by simp only []; omega)).trans b_3⟩ : (fun W => W.cell? ⟨w.heap.size + 1 + 1, 0, none⟩ = some (.string s) ∧ W.cell? ⟨w.heap.size + 1 + 1, 1, none⟩ = some (.int .i64 ar) ∧ W.cell? ⟨w.heap.size + 1 + 1, 2, none⟩ = some (.slice vb vn vc) ∧ W.cell? ⟨w.heap.size, 0, none⟩ = some (.string s) ∧ W.cell? ⟨w.heap.size, 1, none⟩ = some (.int .i64 ar) ∧ W.cell? ⟨w.heap.size, 2, none⟩ = some (.int .i64 rc0) ∧ W.cell? ⟨w.heap.size, 3, none⟩ = some (.slice (some ⟨b0, o0, none⟩) (m + 1) uc)) wA)
      refine hK.out _ _ ?_ (fun hHeld => ?_)
      · exact hSA
      clear hK K
      try simp only [Act.put, List.setIfInBounds_toArray, List.set_cons_zero, List.set_cons_succ]
      refine wpAnyH_take (i := 3) (v := ?v3_22) rfl (by kernel_rfl) (by kernel_rfl) (by kernel_rfl) (fun _ _ _ h => h) (Or.inl ⟨by rfl, ?hy3_22⟩) (by assumption) ?rest3_22
      case hy3_22 => intro w hSw; (try dsimp only at hSw); go_simp; (try with_reducible rfl)
      try simp only [Act.put, List.getElem_toArray, List.getElem_cons_succ, List.getElem_cons_zero, List.setIfInBounds_toArray, List.set_cons_zero, List.set_cons_succ]
      refine wpAnyH_take (i := 4) (v := undef) rfl (by kernel_rfl) (by kernel_rfl) (by kernel_rfl) (fun _ _ _ h => h) (Or.inr ⟨by rfl, rfl⟩) (by assumption) ?_
      try simp only [Act.put, List.getElem_toArray, List.getElem_cons_succ, List.getElem_cons_zero, List.setIfInBounds_toArray, List.set_cons_zero, List.set_cons_succ]
      refine wpAnyH_take (i := 5) (v := undef) rfl (by kernel_rfl) (by kernel_rfl) (by kernel_rfl) (fun _ _ _ h => h) (Or.inr ⟨by rfl, rfl⟩) (by assumption) ?_
      try simp only [Act.put, List.getElem_toArray, List.getElem_cons_succ, List.getElem_cons_zero, List.setIfInBounds_toArray, List.set_cons_zero, List.set_cons_succ]
      refine wpAnyH_take (i := 6) (v := undef) rfl (by kernel_rfl) (by kernel_rfl) (by kernel_rfl) (fun _ _ _ h => h) (Or.inr ⟨by rfl, rfl⟩) (by assumption) ?_
      try simp only [Act.put, List.getElem_toArray, List.getElem_cons_succ, List.getElem_cons_zero, List.setIfInBounds_toArray, List.set_cons_zero, List.set_cons_succ]
      refine wpAnyH_take (i := 7) (v := undef) rfl (by kernel_rfl) (by kernel_rfl) (by kernel_rfl) (fun _ _ _ h => h) (Or.inr ⟨by rfl, rfl⟩) (by assumption) ?_
      try simp only [Act.put, List.getElem_toArray, List.getElem_cons_succ, List.getElem_cons_zero, List.setIfInBounds_toArray, List.set_cons_zero, List.set_cons_succ]
      refine wpAnyH_take (i := 8) (v := ?v8_23) rfl (by kernel_rfl) (by kernel_rfl) (by kernel_rfl) (fun _ _ _ h => h) (Or.inl ⟨by rfl, ?hy8_23⟩) (by assumption) ?rest8_23
      case hy8_23 => intro w hSw; (try dsimp only at hSw); go_simp; (try with_reducible rfl)
      try simp only [Act.put, List.getElem_toArray, List.getElem_cons_succ, List.getElem_cons_zero, List.setIfInBounds_toArray, List.set_cons_zero, List.set_cons_succ]
      have q_0 := (zA.cell (p := ⟨w.heap.size + 1, 0, none⟩) (by simp only []; omega)).trans r_0
      have q_f0 := (zA.frozen (p := ⟨w.heap.size + 1, 0, none⟩) (by simp only []; omega)).trans r_f0
      have q_1 := (zA.cell (p := ⟨w.heap.size + 1, 1, none⟩) (by simp only []; omega)).trans r_1
      have q_f1 := (zA.frozen (p := ⟨w.heap.size + 1, 1, none⟩) (by simp only []; omega)).trans r_f1
      have q_2 := (zA.cell (p := ⟨w.heap.size + 1, 2, none⟩) (by simp only []; omega)).trans r_2
      have q_f2 := (zA.frozen (p := ⟨w.heap.size + 1, 2, none⟩) (by simp only []; omega)).trans r_f2
      obtain ⟨h_0, h_1, h_2, h_3, h_4, h_5, h_6⟩ := hSA
      refine wpAnyH_ready (rs := [9]) (by kernel_rfl) (by simp) ?_
      refine AllReadyH.cons rfl (fun K hK => ?_) AllReadyH.nil
      go_simp
      refine hK.out _ _ ?_ (fun hHeld => ?_)
      · (refine ⟨?_, ?_, ?_, ?_, ?_, ?_, ?_⟩ <;> go_simp)
      clear hK K
      try simp only [Act.put, List.setIfInBounds_toArray, List.set_cons_zero, List.set_cons_succ]
      refine wpAnyH_take (i := 10) (v := ?v10_24) rfl (by kernel_rfl) (by kernel_rfl) (by kernel_rfl) (fun _ _ _ h => h) (Or.inl ⟨by rfl, ?hy10_24⟩) (by assumption) ?rest10_24
      case hy10_24 => intro w hSw; (try dsimp only at hSw); go_simp; (try with_reducible rfl)
      try simp only [Act.put, List.getElem_toArray, List.getElem_cons_succ, List.getElem_cons_zero, List.setIfInBounds_toArray, List.set_cons_zero, List.set_cons_succ]
      refine wpAnyH_done (by kernel_rfl) ?_ _
      refine NoPanic.normal ?_
      go_wp2_with fail
      have hbE := on hb5 zA
      refine bodyPost_ret (v := .tuple #[.agg #[.string s, .int .i64 ar, .slice vb vn vc], .bool false]) (by simp [results, Try.results164, go_sem, q_0, q_1, q_2, q_f0, q_f1, q_f2]) rfl ⟨_, _, _, by rw [HVSE.out, HE.out], ?_⟩
      repeat (refine Below.setCell ?_ (by simp only []; omega) _)
      exact hbE
    | true =>
      go_wp2_with fail
      refine wp_region_noPanic ?_
      refine wp_region_held_drew (S := (fun W => W.cell? ⟨w.heap.size + 1 + 1, 0, none⟩ = some (.string s) ∧ W.cell? ⟨w.heap.size + 1 + 1, 1, none⟩ = some (.int .i64 ar) ∧ W.cell? ⟨w.heap.size + 1 + 1, 2, none⟩ = some (.slice vb vn vc) ∧ W.cell? ⟨w.heap.size, 0, none⟩ = some (.string s) ∧ W.cell? ⟨w.heap.size, 1, none⟩ = some (.int .i64 ar) ∧ W.cell? ⟨w.heap.size, 2, none⟩ = some (.int .i64 rc0) ∧ W.cell? ⟨w.heap.size, 3, none⟩ = some (.slice (some ⟨b0, o0, none⟩) (m + 1) uc))) (by kernel_rfl) ?hS25 (fun hHeld => ?_)
      case hS25 => exact ⟨x_0, x_1, x_2, b_0, b_1, b_2, b_3⟩
      refine wpAnyH_take (i := 0) (v := ?v0_26) rfl (by kernel_rfl) (by kernel_rfl) (by kernel_rfl) (fun _ _ _ h => h) (Or.inl ⟨by rfl, ?hy0_26⟩) (by assumption) ?rest0_26
      case hy0_26 => intro w hSw; (try dsimp only at hSw); go_simp; (try with_reducible rfl)
      try simp only [Act.put, List.getElem_toArray, List.getElem_cons_succ, List.getElem_cons_zero, List.setIfInBounds_toArray, List.set_cons_zero, List.set_cons_succ]
      refine wpAnyH_take (i := 1) (v := ?v1_27) rfl (by kernel_rfl) (by kernel_rfl) (by kernel_rfl) (fun _ _ _ h => h) (Or.inl ⟨by rfl, ?hy1_27⟩) (by assumption) ?rest1_27
      case hy1_27 => intro w hSw; (try dsimp only at hSw); go_simp; (try with_reducible rfl)
      try simp only [Act.put, List.getElem_toArray, List.getElem_cons_succ, List.getElem_cons_zero, List.setIfInBounds_toArray, List.set_cons_zero, List.set_cons_succ]
      refine wpAnyH_ready (rs := [2]) (by kernel_rfl) (by simp) ?_
      refine AllReadyH.cons rfl (fun K hK => ?_) AllReadyH.nil
      go_simp; (refine (HVT.out _ hbd).mono ?_); rintro e wA ⟨rfl, zA⟩; replace zA : Below W5.heap.size W5 wA := on (Below.refl _ _).drew zA; have sA := zA.size; have hSA := (⟨(zA.cell (p := ⟨w.heap.size + 1 + 1, 0, none⟩) (by simp only []; omega)).trans x_0, (zA.cell (p := ⟨w.heap.size + 1 + 1, 1, none⟩) (by simp only []; omega)).trans x_1, (zA.cell (p := ⟨w.heap.size + 1 + 1, 2, none⟩) (by simp only []; omega)).trans x_2, (zA.cell (p := ⟨w.heap.size, 0, none⟩) (by simp only []; omega)).trans b_0, (zA.cell (p := ⟨w.heap.size, 1, none⟩) (by simp only []; omega)).trans b_1, (zA.cell (p := ⟨w.heap.size, 2, none⟩) (by simp only []; omega)).trans b_2, (zA.cell (p := ⟨w.heap.size, 3, none⟩) (by simp only []; omega)).trans b_3⟩ : (fun W => W.cell? ⟨w.heap.size + 1 + 1, 0, none⟩ = some (.string s) ∧ W.cell? ⟨w.heap.size + 1 + 1, 1, none⟩ = some (.int .i64 ar) ∧ W.cell? ⟨w.heap.size + 1 + 1, 2, none⟩ = some (.slice vb vn vc) ∧ W.cell? ⟨w.heap.size, 0, none⟩ = some (.string s) ∧ W.cell? ⟨w.heap.size, 1, none⟩ = some (.int .i64 ar) ∧ W.cell? ⟨w.heap.size, 2, none⟩ = some (.int .i64 rc0) ∧ W.cell? ⟨w.heap.size, 3, none⟩ = some (.slice (some ⟨b0, o0, none⟩) (m + 1) uc)) wA)
      refine hK.out _ _ ?_ (fun hHeld => ?_)
      · exact hSA
      clear hK K
      try simp only [Act.put, List.setIfInBounds_toArray, List.set_cons_zero, List.set_cons_succ]
      refine wpAnyH_take (i := 3) (v := ?v3_28) rfl (by kernel_rfl) (by kernel_rfl) (by kernel_rfl) (fun _ _ _ h => h) (Or.inl ⟨by rfl, ?hy3_28⟩) (by assumption) ?rest3_28
      case hy3_28 => intro w hSw; (try dsimp only at hSw); go_simp; (try with_reducible rfl)
      try simp only [Act.put, List.getElem_toArray, List.getElem_cons_succ, List.getElem_cons_zero, List.setIfInBounds_toArray, List.set_cons_zero, List.set_cons_succ]
      refine wpAnyH_take (i := 4) (v := ?v4_29) rfl (by kernel_rfl) (by kernel_rfl) (by kernel_rfl) (fun _ _ _ h => h) (Or.inl ⟨by rfl, ?hy4_29⟩) (by assumption) ?rest4_29
      case hy4_29 => intro w hSw; (try dsimp only at hSw); go_simp; (try with_reducible rfl)
      try simp only [Act.put, List.getElem_toArray, List.getElem_cons_succ, List.getElem_cons_zero, List.setIfInBounds_toArray, List.set_cons_zero, List.set_cons_succ]
      refine wpAnyH_take (i := 6) (v := ?v6_30) rfl (by kernel_rfl) (by kernel_rfl) (by kernel_rfl) (fun _ _ _ h => h) (Or.inl ⟨by rfl, ?hy6_30⟩) (by assumption) ?rest6_30
      case hy6_30 => intro w hSw; (try dsimp only at hSw); go_simp; (try with_reducible rfl)
      try simp only [Act.put, List.getElem_toArray, List.getElem_cons_succ, List.getElem_cons_zero, List.setIfInBounds_toArray, List.set_cons_zero, List.set_cons_succ]
      refine wpAnyH_ready (rs := [5]) (by kernel_rfl) (by simp) ?_
      refine AllReadyH.cons rfl (fun K hK => ?_) AllReadyH.nil
      go_simp; (refine (HST.out _ zA).mono ?_); rintro e wB ⟨dsB, rfl, oB, zB⟩; obtain ⟨ub3, un3, uc3, rfl⟩ := oTs_form oB; have sB := zB.size; have zAB := on zA zB; have hSB := (⟨(zB.cell (p := ⟨w.heap.size + 1 + 1, 0, none⟩) (by simp only []; omega)).trans hSA.1, (zB.cell (p := ⟨w.heap.size + 1 + 1, 1, none⟩) (by simp only []; omega)).trans hSA.2.1, (zB.cell (p := ⟨w.heap.size + 1 + 1, 2, none⟩) (by simp only []; omega)).trans hSA.2.2.1, (zB.cell (p := ⟨w.heap.size, 0, none⟩) (by simp only []; omega)).trans hSA.2.2.2.1, (zB.cell (p := ⟨w.heap.size, 1, none⟩) (by simp only []; omega)).trans hSA.2.2.2.2.1, (zB.cell (p := ⟨w.heap.size, 2, none⟩) (by simp only []; omega)).trans hSA.2.2.2.2.2.1, (zB.cell (p := ⟨w.heap.size, 3, none⟩) (by simp only []; omega)).trans hSA.2.2.2.2.2.2⟩ : (fun W => W.cell? ⟨w.heap.size + 1 + 1, 0, none⟩ = some (.string s) ∧ W.cell? ⟨w.heap.size + 1 + 1, 1, none⟩ = some (.int .i64 ar) ∧ W.cell? ⟨w.heap.size + 1 + 1, 2, none⟩ = some (.slice vb vn vc) ∧ W.cell? ⟨w.heap.size, 0, none⟩ = some (.string s) ∧ W.cell? ⟨w.heap.size, 1, none⟩ = some (.int .i64 ar) ∧ W.cell? ⟨w.heap.size, 2, none⟩ = some (.int .i64 rc0) ∧ W.cell? ⟨w.heap.size, 3, none⟩ = some (.slice (some ⟨b0, o0, none⟩) (m + 1) uc)) wB)
      refine hK.out _ _ ?_ (fun hHeld => ?_)
      · exact hSB
      clear hK K
      try simp only [Act.put, List.setIfInBounds_toArray, List.set_cons_zero, List.set_cons_succ]
      refine wpAnyH_ready (rs := [7]) (by kernel_rfl) (by simp) ?_
      refine AllReadyH.cons rfl (fun K hK => ?_) AllReadyH.nil
      go_simp; (refine (equalTs_impl _ _ (statsOf t) (s, ar, rc0, gs) _ (oB.rd reads_Ts) (HX.out _ (on hb5 zAB))).mono ?_); rintro e wC ⟨rfl, zC⟩; have sC := zC.size; have zAC := on zAB zC; have hSC := (⟨(zC.cell (p := ⟨w.heap.size + 1 + 1, 0, none⟩) (by simp only []; omega)).trans hSB.1, (zC.cell (p := ⟨w.heap.size + 1 + 1, 1, none⟩) (by simp only []; omega)).trans hSB.2.1, (zC.cell (p := ⟨w.heap.size + 1 + 1, 2, none⟩) (by simp only []; omega)).trans hSB.2.2.1, (zC.cell (p := ⟨w.heap.size, 0, none⟩) (by simp only []; omega)).trans hSB.2.2.2.1, (zC.cell (p := ⟨w.heap.size, 1, none⟩) (by simp only []; omega)).trans hSB.2.2.2.2.1, (zC.cell (p := ⟨w.heap.size, 2, none⟩) (by simp only []; omega)).trans hSB.2.2.2.2.2.1, (zC.cell (p := ⟨w.heap.size, 3, none⟩) (by simp only []; omega)).trans hSB.2.2.2.2.2.2⟩ : (fun W => W.cell? ⟨w.heap.size + 1 + 1, 0, none⟩ = some (.string s) ∧ W.cell? ⟨w.heap.size + 1 + 1, 1, none⟩ = some (.int .i64 ar) ∧ W.cell? ⟨w.heap.size + 1 + 1, 2, none⟩ = some (.slice vb vn vc) ∧ W.cell? ⟨w.heap.size, 0, none⟩ = some (.string s) ∧ W.cell? ⟨w.heap.size, 1, none⟩ = some (.int .i64 ar) ∧ W.cell? ⟨w.heap.size, 2, none⟩ = some (.int .i64 rc0) ∧ W.cell? ⟨w.heap.size, 3, none⟩ = some (.slice (some ⟨b0, o0, none⟩) (m + 1) uc)) wC)
      refine hK.out _ _ ?_ (fun hHeld => ?_)
      · exact hSC
      clear hK K
      try simp only [Act.put, List.setIfInBounds_toArray, List.set_cons_zero, List.set_cons_succ]
      refine wpAnyH_take (i := 8) (v := ?v8_31) rfl (by kernel_rfl) (by kernel_rfl) (by kernel_rfl) (fun _ _ _ h => h) (Or.inl ⟨by rfl, ?hy8_31⟩) (by assumption) ?rest8_31
      case hy8_31 => intro w hSw; (try dsimp only at hSw); go_simp; (try with_reducible rfl)
      try simp only [Act.put, List.getElem_toArray, List.getElem_cons_succ, List.getElem_cons_zero, List.setIfInBounds_toArray, List.set_cons_zero, List.set_cons_succ]
      have HE : Hid (vs = decide (statsOf t = (s, ar, rc0, gs))) := Lib.hid (by rw [HVS.out]; rfl)
      have q_0 := (zAC.cell (p := ⟨w.heap.size + 1, 0, none⟩) (by simp only []; omega)).trans r_0
      have q_f0 := (zAC.frozen (p := ⟨w.heap.size + 1, 0, none⟩) (by simp only []; omega)).trans r_f0
      have q_1 := (zAC.cell (p := ⟨w.heap.size + 1, 1, none⟩) (by simp only []; omega)).trans r_1
      have q_f1 := (zAC.frozen (p := ⟨w.heap.size + 1, 1, none⟩) (by simp only []; omega)).trans r_f1
      have q_2 := (zAC.cell (p := ⟨w.heap.size + 1, 2, none⟩) (by simp only []; omega)).trans r_2
      have q_f2 := (zAC.frozen (p := ⟨w.heap.size + 1, 2, none⟩) (by simp only []; omega)).trans r_f2
      obtain ⟨h_0, h_1, h_2, h_3, h_4, h_5, h_6⟩ := hSC
      refine wpAnyH_ready (rs := [9]) (by kernel_rfl) (by simp) ?_
      refine AllReadyH.cons rfl (fun K hK => ?_) AllReadyH.nil
      go_simp
      refine hK.out _ _ ?_ (fun hHeld => ?_)
      · (refine ⟨?_, ?_, ?_, ?_, ?_, ?_, ?_⟩ <;> go_simp)
      clear hK K
      try simp only [Act.put, List.setIfInBounds_toArray, List.set_cons_zero, List.set_cons_succ]
      refine wpAnyH_take (i := 10) (v := ?v10_32) rfl (by kernel_rfl) (by kernel_rfl) (by kernel_rfl) (fun _ _ _ h => h) (Or.inl ⟨by rfl, ?hy10_32⟩) (by assumption) ?rest10_32
      case hy10_32 => intro w hSw; (try dsimp only at hSw); go_simp; (try with_reducible rfl)
      try simp only [Act.put, List.getElem_toArray, List.getElem_cons_succ, List.getElem_cons_zero, List.setIfInBounds_toArray, List.set_cons_zero, List.set_cons_succ]
      refine wpAnyH_done (by kernel_rfl) ?_ _
      refine NoPanic.normal ?_
      go_wp2_with fail
      have hbE := on hb5 zAC
      refine bodyPost_ret (v := .tuple #[.agg #[.string s, .int .i64 ar, .slice vb vn vc], .bool (decide (statsOf t = (s, ar, rc0, gs)))]) (by simp [results, Try.results164, go_sem, q_0, q_1, q_2, q_f0, q_f1, q_f2]) rfl ⟨_, _, _, by rw [HVSE.out, HE.out], ?_⟩
      repeat (refine Below.setCell ?_ (by simp only []; omega) _)
      exact hbE

end Go.Proofs.Ytbkoddikfpkocaa

/- Contracts: whether statistics are those of a table, by the reference; by the program (2). -/
namespace Go.Proofs.Ytbkoddikfpkocaa
open Go.RowKit
set_option linter.unusedVariables false
set_option linter.unusedSimpArgs false
set_option synthInstance.maxSize 2000
set_option synthInstance.maxHeartbeats 400000

theorem validS_impl (cs : List Value) (x : DTs) (w : World) (h : rTs.rep w cs x) (hb : bulk_Ts x ≤ 10000000) :
    Calls Try.prog 91 #[.agg cs.toArray] w fun e w' => e = .returned (.bool (validS x)) ∧ Below w.heap.size w w' := by
  have HT := Lib.hid (fun W (hW : Below w.heap.size w W) => tableOf_any cs x W (rTs.mono h hW) hb)
  obtain ⟨ub, un, uc, rfl, hs, hi, hir, g3⟩ := rTs_open h
  obtain ⟨vs, hvs⟩ : ∃ vs, validS x = vs := ⟨_, rfl⟩
  simp only [hvs] at HT ⊢
  obtain ⟨s, ar, rc0, gs⟩ := x
  simp only at hs hi hir g3 HT
  clear h g3 hb hvs
  have hb0 : Below w.heap.size w w := Below.refl _ _
  go_enter Try.func91, Try.ntmps91
  obtain ⟨w1, hw1⟩ : ∃ W, W = w.alloc (.cells #[.string s, .int .i64 ar, .int .i64 rc0, .slice ub un uc] 101) := ⟨_, rfl⟩
  have z1 : Below w.heap.size w w1 := by rw [hw1]; exact (Below.refl _ _).alloc (Nat.le_refl _) _
  have s1 : w1.heap.size = w.heap.size + 1 := by rw [hw1]; simp
  have hb1 := on hb0 z1
  have b_0 : w1.cell? ⟨w.heap.size, 0, none⟩ = some (.string s) := by rw [hw1]; exact box_cell (Below.refl _ _) rfl
  have b_1 : w1.cell? ⟨w.heap.size, 1, none⟩ = some (.int .i64 ar) := by rw [hw1]; exact box_cell (Below.refl _ _) rfl
  have b_2 : w1.cell? ⟨w.heap.size, 2, none⟩ = some (.int .i64 rc0) := by rw [hw1]; exact box_cell (Below.refl _ _) rfl
  have b_3 : w1.cell? ⟨w.heap.size, 3, none⟩ = some (.slice ub un uc) := by rw [hw1]; exact box_cell (Below.refl _ _) rfl
  have raw1_b_0 := b_0
  have raw1_b_1 := b_1
  have raw1_b_2 := b_2
  have raw1_b_3 := b_3
  rw [hw1] at raw1_b_0 raw1_b_1 raw1_b_2 raw1_b_3
  go_wp2_with fail
  rw [← hw1]
  clear hw1
  clear raw1_b_0 raw1_b_1 raw1_b_2 raw1_b_3
  refine (HT.out _ hb1).mono ?_
  rintro e w9 ⟨rb, rn, rc, rfl, z9⟩
  have s2 := z9.size
  have hb2 := on hb1 z9
  replace b_0 := (z9.cell (p := ⟨w.heap.size, 0, none⟩) (by simp only []; omega)).trans b_0
  replace b_1 := (z9.cell (p := ⟨w.heap.size, 1, none⟩) (by simp only []; omega)).trans b_1
  replace b_2 := (z9.cell (p := ⟨w.heap.size, 2, none⟩) (by simp only []; omega)).trans b_2
  replace b_3 := (z9.cell (p := ⟨w.heap.size, 3, none⟩) (by simp only []; omega)).trans b_3
  have hbz := (hb2).alloc (by omega) (.cells #[.string s, .int .i64 ar, .slice rb rn rc] 34)
  go_wp2_with fail
  go_ret
  exact ⟨rfl, hbz⟩

set_option maxRecDepth 100000 in
set_option maxHeartbeats 4000000 in
theorem l13Table_any (cs : List Value) (x : DTs) (w : World) (h : rTs.rep w cs x) (hb : bulk_Ts x ≤ 10000000) :
    Calls Try.prog 161 #[.agg cs.toArray] w fun e w' => ∃ s1 i1 rb rn rc t', e = .returned (.tuple #[.agg #[.string s1, .int .i64 i1, .slice rb rn rc], .bool (!decide (x.2.2.2 = []) && validT (newT x.1 x.2.1 (lastV x.2.2.2)))]) ∧ Own oT w.heap.size w'.heap.size w' [.string s1, .int .i64 i1, .slice rb rn rc] t' ∧ ((!decide (x.2.2.2 = []) && validT (newT x.1 x.2.1 (lastV x.2.2.2))) = true → t' = newT x.1 x.2.1 (lastV x.2.2.2)) ∧ Below w.heap.size w w' := by
  obtain ⟨ub, un, uc, rfl, hs, hi, hir, g3⟩ := rTs_open h
  obtain ⟨s, ar, rc0, gs⟩ := x
  simp only at hs hi hir g3
  have t3 := rS_sl g3
  have hl := t3.len
  have hn := t3.small
  obtain ⟨f, hf⟩ : ∃ f, (!decide (gs = []) && validT (newT s ar (lastV gs))) = f := ⟨_, rfl⟩
  obtain ⟨nt, hnt⟩ : ∃ nt, newT s ar (lastV gs) = nt := ⟨_, rfl⟩
  simp only [hf]
  rw [hnt] at hf ⊢
  have HF := Lib.hid hf
  have HNT := Lib.hid hnt
  clear h g3 hf hnt
  have hb0 : Below w.heap.size w w := Below.refl _ _
  go_enter Try.func161, Try.ntmps161
  obtain ⟨w1, hw1⟩ : ∃ W, W = w.alloc (.cells #[.string s, .int .i64 ar, .int .i64 rc0, .slice ub un uc] 101) := ⟨_, rfl⟩
  have z1 : Below w.heap.size w w1 := by rw [hw1]; exact (Below.refl _ _).alloc (Nat.le_refl _) _
  have s1 : w1.heap.size = w.heap.size + 1 := by rw [hw1]; simp
  have hb1 := on hb0 z1
  have b_0 : w1.cell? ⟨w.heap.size, 0, none⟩ = some (.string s) := by rw [hw1]; exact box_cell (Below.refl _ _) rfl
  have b_1 : w1.cell? ⟨w.heap.size, 1, none⟩ = some (.int .i64 ar) := by rw [hw1]; exact box_cell (Below.refl _ _) rfl
  have b_2 : w1.cell? ⟨w.heap.size, 2, none⟩ = some (.int .i64 rc0) := by rw [hw1]; exact box_cell (Below.refl _ _) rfl
  have b_3 : w1.cell? ⟨w.heap.size, 3, none⟩ = some (.slice ub un uc) := by rw [hw1]; exact box_cell (Below.refl _ _) rfl
  have b_f0 : w1.frozen? ⟨w.heap.size, 0, none⟩ = false := by rw [hw1]; exact box_frozen (Below.refl _ _)
  have b_f1 : w1.frozen? ⟨w.heap.size, 1, none⟩ = false := by rw [hw1]; exact box_frozen (Below.refl _ _)
  have b_f2 : w1.frozen? ⟨w.heap.size, 2, none⟩ = false := by rw [hw1]; exact box_frozen (Below.refl _ _)
  have b_f3 : w1.frozen? ⟨w.heap.size, 3, none⟩ = false := by rw [hw1]; exact box_frozen (Below.refl _ _)
  have raw1_b_0 := b_0
  have raw1_b_1 := b_1
  have raw1_b_2 := b_2
  have raw1_b_3 := b_3
  rw [hw1] at raw1_b_0 raw1_b_1 raw1_b_2 raw1_b_3
  obtain ⟨w2, hw2⟩ : ∃ W, W = w1.alloc (.cells #[.string ⟨#[]⟩, .int .i64 0, .slice none 0 0] 34) := ⟨_, rfl⟩
  have z2 : Below w1.heap.size w1 w2 := by rw [hw2]; exact (Below.refl _ _).alloc (Nat.le_refl _) _
  have s2 : w2.heap.size = w1.heap.size + 1 := by rw [hw2]; simp
  have hb2 := on hb1 z2
  replace b_0 := (z2.cell (p := ⟨w.heap.size, 0, none⟩) (by simp only []; omega)).trans b_0
  replace b_1 := (z2.cell (p := ⟨w.heap.size, 1, none⟩) (by simp only []; omega)).trans b_1
  replace b_2 := (z2.cell (p := ⟨w.heap.size, 2, none⟩) (by simp only []; omega)).trans b_2
  replace b_3 := (z2.cell (p := ⟨w.heap.size, 3, none⟩) (by simp only []; omega)).trans b_3
  replace b_f0 := (z2.frozen (p := ⟨w.heap.size, 0, none⟩) (by simp only []; omega)).trans b_f0
  replace b_f1 := (z2.frozen (p := ⟨w.heap.size, 1, none⟩) (by simp only []; omega)).trans b_f1
  replace b_f2 := (z2.frozen (p := ⟨w.heap.size, 2, none⟩) (by simp only []; omega)).trans b_f2
  replace b_f3 := (z2.frozen (p := ⟨w.heap.size, 3, none⟩) (by simp only []; omega)).trans b_f3
  have e2 : w1.heap.size = w.heap.size + 1 := by omega
  have r_0 : w2.cell? ⟨w1.heap.size, 0, none⟩ = some (.string ⟨#[]⟩) := by rw [hw2]; exact box_cell (Below.refl _ _) rfl
  have r_1 : w2.cell? ⟨w1.heap.size, 1, none⟩ = some (.int .i64 0) := by rw [hw2]; exact box_cell (Below.refl _ _) rfl
  have r_2 : w2.cell? ⟨w1.heap.size, 2, none⟩ = some (.slice none 0 0) := by rw [hw2]; exact box_cell (Below.refl _ _) rfl
  rw [e2] at r_0 r_1 r_2
  have r_f0 : w2.frozen? ⟨w1.heap.size, 0, none⟩ = false := by rw [hw2]; exact box_frozen (Below.refl _ _)
  have r_f1 : w2.frozen? ⟨w1.heap.size, 1, none⟩ = false := by rw [hw2]; exact box_frozen (Below.refl _ _)
  have r_f2 : w2.frozen? ⟨w1.heap.size, 2, none⟩ = false := by rw [hw2]; exact box_frozen (Below.refl _ _)
  rw [e2] at r_f0 r_f1 r_f2
  have raw2_b_0 := b_0
  have raw2_b_1 := b_1
  have raw2_b_2 := b_2
  have raw2_b_3 := b_3
  have raw2_r_0 := r_0
  have raw2_r_1 := r_1
  have raw2_r_2 := r_2
  rw [hw2, hw1] at raw2_b_0 raw2_b_1 raw2_b_2 raw2_b_3 raw2_r_0 raw2_r_1 raw2_r_2
  rcases Nat.eq_zero_or_pos un with h0 | h0
  · subst h0
    have hgs : gs = [] := List.eq_nil_of_length_eq_zero hl
    have HE : Hid (f = false) := Lib.hid (by rw [← HF.out, hgs]; rfl)
    have hbz := hb2
    rw [hw2, hw1] at hbz
    clear hl t3 hgs
    go_wp2_with fail
    refine bodyPost_ret (v := .tuple #[.agg #[.string ⟨#[]⟩, .int .i64 0, .slice none 0 0], .bool false]) (by simp [results, Try.results161, go_sem]) rfl ⟨⟨#[]⟩, 0, none, 0, 0, (⟨#[]⟩, 0, []), by rw [HE.out], ?_, (fun h9 => by rw [HE.out] at h9; cases h9), ?_⟩
    · refine oT_mk (x := (⟨#[]⟩, 0, [])) (by decide) (by constructor <;> decide) (l2 := w.heap.size) (m2 := w.heap.size) ?_ (Nat.le_refl _) (by first | (simp; done) | (simp; omega))
      exact own_nil_S
    · exact hbz
  · obtain ⟨m, rfl⟩ : ∃ m, un = m + 1 := ⟨un - 1, by omega⟩
    obtain ⟨b0, o0, csg, g, rfl, hx, hr, hc⟩ := t3.at (show m < m + 1 by omega)
    obtain ⟨gb0, gn0, gc0, gb1, gn1, gc1, gb2, gn2, gc2, rfl, k0, k1, k2⟩ := rGs_open hr
    have e_lt : b0 < w.heap.size := cell_lt (hc 0 _ rfl)
    have e_0 : w2.cell? ⟨b0, o0 + m * 3, none⟩ = some (.slice gb0 gn0 gc0) := (hb2.cell (p := ⟨b0, o0 + m * 3, none⟩) e_lt).trans (by have h9 := hc 0 _ rfl; rw [← Nat.add_assoc] at h9; exact h9)
    have e_1 : w2.cell? ⟨b0, o0 + m * 3 + 1, none⟩ = some (.slice gb1 gn1 gc1) := (hb2.cell (p := ⟨b0, o0 + m * 3 + 1, none⟩) e_lt).trans (by have h9 := hc 1 _ rfl; rw [← Nat.add_assoc] at h9; exact h9)
    have e_2 : w2.cell? ⟨b0, o0 + m * 3 + 2, none⟩ = some (.slice gb2 gn2 gc2) := (hb2.cell (p := ⟨b0, o0 + m * 3 + 2, none⟩) e_lt).trans (by have h9 := hc 2 _ rfl; rw [← Nat.add_assoc] at h9; exact h9)
    have hlv : lastV gs = g.2.1 := by
      have h9 := hx.out
      unfold lastV
      rw [List.getLast?_eq_getElem?, hl, show m + 1 - 1 = m by omega, h9]
    have hne : gs ≠ [] := fun h9 => by rw [h9] at hl; simp at hl
    have hbu : bulk_II g.2.1 ≤ 100000000 := by
      have h9 := sumBy_mem bulk_Gs hx.out
      have h8 : bulk_II g.2.1 ≤ bulk_Gs g := by unfold bulk_Gs; omega
      unfold bulk_Ts bulk_Gl at hb
      simp only at hb
      omega
    have HF2 : Hid (validT nt = f) := Lib.hid (by rw [← HF.out]; simp [hne])
    have HNW := Lib.hid (fun W (hW : Below w.heap.size w W) => by
      have h9 := newTable_any s ar _ g.2.1 W hs hi (rII.mono k1 hW) hbu
      rw [← hlv, HNT.out, HF2.out] at h9
      exact h9)
    have hwm : IntKind.i64.wrap ((m : Int) + 1 - 1) = (m : Int) := by rw [show ((m : Int) + 1 - 1) = (m : Int) by omega]; exact IntWalk.i64_in _ (by omega)
    have hwm2 : IntKind.i64.wrap (m : Int) = (m : Int) := IntWalk.i64_in _ (by omega)
    have hmlt : (m : Int) < (m : Int) + 1 := by omega
    clear hl t3 hx hr hc k0 k1 k2 hlv hne
    go_wp2_with fail
    rw [← hw1]
    rw [← hw2]
    clear hw2 hw1
    clear raw1_b_0 raw1_b_1 raw1_b_2 raw1_b_3 raw2_b_0 raw2_b_1 raw2_b_2 raw2_b_3 raw2_r_0 raw2_r_1 raw2_r_2
    have hbd := hb2.drew
    refine wp_region_noPanic ?_
    refine wp_region_held_drew (S := (fun W => W.cell? ⟨w.heap.size, 0, none⟩ = some (.string s) ∧ W.cell? ⟨w.heap.size, 1, none⟩ = some (.int .i64 ar) ∧ W.cell? ⟨w.heap.size, 3, none⟩ = some (.slice (some ⟨b0, o0, none⟩) (m + 1) uc) ∧ W.cell? ⟨b0, o0 + m * 3 + 1, none⟩ = some (.slice gb1 gn1 gc1))) (by kernel_rfl) ?hS3 (fun hHeld => ?_)
    case hS3 => exact ⟨b_0, b_1, b_3, e_1⟩
    refine wpAnyH_take (i := 0) (v := ?v0_4) rfl (by kernel_rfl) (by kernel_rfl) (by kernel_rfl) (fun _ _ _ h => h) (Or.inl ⟨by rfl, ?hy0_4⟩) (by assumption) ?rest0_4
    case hy0_4 => intro w hSw; (try dsimp only at hSw); go_simp; (try with_reducible rfl)
    try simp only [Act.put, List.getElem_toArray, List.getElem_cons_succ, List.getElem_cons_zero, List.setIfInBounds_toArray, List.set_cons_zero, List.set_cons_succ]
    refine wpAnyH_take (i := 1) (v := ?v1_5) rfl (by kernel_rfl) (by kernel_rfl) (by kernel_rfl) (fun _ _ _ h => h) (Or.inl ⟨by rfl, ?hy1_5⟩) (by assumption) ?rest1_5
    case hy1_5 => intro w hSw; (try dsimp only at hSw); go_simp; (try with_reducible rfl)
    try simp only [Act.put, List.getElem_toArray, List.getElem_cons_succ, List.getElem_cons_zero, List.setIfInBounds_toArray, List.set_cons_zero, List.set_cons_succ]
    refine wpAnyH_take (i := 2) (v := ?v2_6) rfl (by kernel_rfl) (by kernel_rfl) (by kernel_rfl) (fun _ _ _ h => h) (Or.inl ⟨by rfl, ?hy2_6⟩) (by assumption) ?rest2_6
    case hy2_6 => intro w hSw; (try dsimp only at hSw); go_simp; (try with_reducible rfl)
    try simp only [Act.put, List.getElem_toArray, List.getElem_cons_succ, List.getElem_cons_zero, List.setIfInBounds_toArray, List.set_cons_zero, List.set_cons_succ]
    refine wpAnyH_take (i := 3) (v := ?v3_7) rfl (by kernel_rfl) (by kernel_rfl) (by kernel_rfl) (fun _ _ _ h => h) (Or.inl ⟨by rfl, ?hy3_7⟩) (by assumption) ?rest3_7
    case hy3_7 => intro w hSw; (try dsimp only at hSw); go_simp; (try with_reducible rfl)
    try simp only [Act.put, List.getElem_toArray, List.getElem_cons_succ, List.getElem_cons_zero, List.setIfInBounds_toArray, List.set_cons_zero, List.set_cons_succ]
    refine wpAnyH_take (i := 4) (v := ?v4_8) rfl (by kernel_rfl) (by kernel_rfl) (by kernel_rfl) (fun _ _ _ h => h) (Or.inl ⟨by rfl, ?hy4_8⟩) (by assumption) ?rest4_8
    case hy4_8 => intro w hSw; (try dsimp only at hSw); go_simp; (try with_reducible rfl)
    try simp only [Act.put, List.getElem_toArray, List.getElem_cons_succ, List.getElem_cons_zero, List.setIfInBounds_toArray, List.set_cons_zero, List.set_cons_succ]
    refine wpAnyH_take (i := 5) (v := ?v5_9) rfl (by kernel_rfl) (by kernel_rfl) (by kernel_rfl) (fun _ _ _ h => h) (Or.inl ⟨by rfl, ?hy5_9⟩) (by assumption) ?rest5_9
    case hy5_9 => intro w hSw; (try dsimp only at hSw); go_simp; (try with_reducible rfl)
    try simp only [Act.put, List.getElem_toArray, List.getElem_cons_succ, List.getElem_cons_zero, List.setIfInBounds_toArray, List.set_cons_zero, List.set_cons_succ]
    refine wpAnyH_take (i := 6) (v := ?v6_10) rfl (by kernel_rfl) (by kernel_rfl) (by kernel_rfl) (fun _ _ _ h => h) (Or.inl ⟨by rfl, ?hy6_10⟩) (by assumption) ?rest6_10
    case hy6_10 => intro w hSw; (try dsimp only at hSw); go_simp; (try with_reducible rfl)
    try simp only [Act.put, List.getElem_toArray, List.getElem_cons_succ, List.getElem_cons_zero, List.setIfInBounds_toArray, List.set_cons_zero, List.set_cons_succ]
    refine wpAnyH_take (i := 7) (v := ?v7_11) rfl (by kernel_rfl) (by kernel_rfl) (by kernel_rfl) (fun _ _ _ h => h) (Or.inl ⟨by rfl, ?hy7_11⟩) (by assumption) ?rest7_11
    case hy7_11 => intro w hSw; (try dsimp only at hSw); go_simp; (try with_reducible rfl)
    try simp only [Act.put, List.getElem_toArray, List.getElem_cons_succ, List.getElem_cons_zero, List.setIfInBounds_toArray, List.set_cons_zero, List.set_cons_succ]
    refine wpAnyH_take (i := 8) (v := ?v8_12) rfl (by kernel_rfl) (by kernel_rfl) (by kernel_rfl) (fun _ _ _ h => h) (Or.inl ⟨by rfl, ?hy8_12⟩) (by assumption) ?rest8_12
    case hy8_12 => intro w hSw; (try dsimp only at hSw); go_simp; (try with_reducible rfl)
    try simp only [Act.put, List.getElem_toArray, List.getElem_cons_succ, List.getElem_cons_zero, List.setIfInBounds_toArray, List.set_cons_zero, List.set_cons_succ]
    refine wpAnyH_take (i := 9) (v := ?v9_13) rfl (by kernel_rfl) (by kernel_rfl) (by kernel_rfl) (fun _ _ _ h => h) (Or.inl ⟨by rfl, ?hy9_13⟩) (by assumption) ?rest9_13
    case hy9_13 => intro w hSw; (try dsimp only at hSw); go_simp; (try with_reducible rfl)
    try simp only [Act.put, List.getElem_toArray, List.getElem_cons_succ, List.getElem_cons_zero, List.setIfInBounds_toArray, List.set_cons_zero, List.set_cons_succ]
    refine wpAnyH_take (i := 10) (v := ?v10_14) rfl (by kernel_rfl) (by kernel_rfl) (by kernel_rfl) (fun _ _ _ h => h) (Or.inl ⟨by rfl, ?hy10_14⟩) (by assumption) ?rest10_14
    case hy10_14 => intro w hSw; (try dsimp only at hSw); go_simp; (try with_reducible rfl)
    try simp only [Act.put, List.getElem_toArray, List.getElem_cons_succ, List.getElem_cons_zero, List.setIfInBounds_toArray, List.set_cons_zero, List.set_cons_succ]
    refine wpAnyH_take (i := 11) (v := ?v11_15) rfl (by kernel_rfl) (by kernel_rfl) (by kernel_rfl) (fun _ _ _ h => h) (Or.inl ⟨by rfl, ?hy11_15⟩) (by assumption) ?rest11_15
    case hy11_15 => intro w hSw; (try dsimp only at hSw); go_simp; (try with_reducible rfl)
    try simp only [Act.put, List.getElem_toArray, List.getElem_cons_succ, List.getElem_cons_zero, List.setIfInBounds_toArray, List.set_cons_zero, List.set_cons_succ]
    refine wpAnyH_take (i := 12) (v := ?v12_16) rfl (by kernel_rfl) (by kernel_rfl) (by kernel_rfl) (fun _ _ _ h => h) (Or.inl ⟨by rfl, ?hy12_16⟩) (by assumption) ?rest12_16
    case hy12_16 => intro w hSw; (try dsimp only at hSw); go_simp; (try with_reducible rfl)
    try simp only [Act.put, List.getElem_toArray, List.getElem_cons_succ, List.getElem_cons_zero, List.setIfInBounds_toArray, List.set_cons_zero, List.set_cons_succ]
    clear hwm hwm2
    refine wpAnyH_ready (rs := [13, 17]) (by kernel_rfl) (by simp) ?_
    refine AllReadyH.cons rfl (fun K hK => ?_) (AllReadyH.cons rfl (fun K hK => ?_) AllReadyH.nil)
    · go_simp; (refine (HNW.out _ hbd).mono ?_); rintro e wN ⟨cN, tN, rfl, oN, hN, zN⟩; obtain ⟨nb, nn, nc, rfl⟩ := oT_form oN; replace zN : Below w2.heap.size w2 wN := on (Below.refl _ _).drew zN; have sN := zN.size; have hSN := (⟨(zN.cell (p := ⟨w.heap.size, 0, none⟩) (by simp only []; omega)).trans b_0, (zN.cell (p := ⟨w.heap.size, 1, none⟩) (by simp only []; omega)).trans b_1, (zN.cell (p := ⟨w.heap.size, 3, none⟩) (by simp only []; omega)).trans b_3, (zN.cell (p := ⟨b0, o0 + m * 3 + 1, none⟩) (by simp only []; omega)).trans e_1⟩ : (fun W => W.cell? ⟨w.heap.size, 0, none⟩ = some (.string s) ∧ W.cell? ⟨w.heap.size, 1, none⟩ = some (.int .i64 ar) ∧ W.cell? ⟨w.heap.size, 3, none⟩ = some (.slice (some ⟨b0, o0, none⟩) (m + 1) uc) ∧ W.cell? ⟨b0, o0 + m * 3 + 1, none⟩ = some (.slice gb1 gn1 gc1)) wN)
      refine hK.out _ _ ?_ (fun hHeld => ?_)
      · exact hSN
      clear hK K
      try simp only [Act.put, List.getElem_toArray, List.getElem_cons_succ, List.getElem_cons_zero, List.setIfInBounds_toArray, List.set_cons_zero, List.set_cons_succ]
      refine wpAnyH_take (i := 14) (v := ?v14_17) rfl (by kernel_rfl) (by kernel_rfl) (by kernel_rfl) (fun _ _ _ h => h) (Or.inl ⟨by rfl, ?hy14_17⟩) (by assumption) ?rest14_17
      case hy14_17 => intro w hSw; (try dsimp only at hSw); go_simp; (try with_reducible rfl)
      try simp only [Act.put, List.getElem_toArray, List.getElem_cons_succ, List.getElem_cons_zero, List.setIfInBounds_toArray, List.set_cons_zero, List.set_cons_succ]
      refine wpAnyH_take (i := 15) (v := ?v15_18) rfl (by kernel_rfl) (by kernel_rfl) (by kernel_rfl) (fun _ _ _ h => h) (Or.inl ⟨by rfl, ?hy15_18⟩) (by assumption) ?rest15_18
      case hy15_18 => intro w hSw; (try dsimp only at hSw); go_simp; (try with_reducible rfl)
      try simp only [Act.put, List.getElem_toArray, List.getElem_cons_succ, List.getElem_cons_zero, List.setIfInBounds_toArray, List.set_cons_zero, List.set_cons_succ]
      refine wpAnyH_take (i := 16) (v := ?v16_19) rfl (by kernel_rfl) (by kernel_rfl) (by kernel_rfl) (fun _ _ _ h => h) (Or.inl ⟨by rfl, ?hy16_19⟩) (by assumption) ?rest16_19
      case hy16_19 => intro w hSw; (try dsimp only at hSw); go_simp; (try with_reducible rfl)
      try simp only [Act.put, List.getElem_toArray, List.getElem_cons_succ, List.getElem_cons_zero, List.setIfInBounds_toArray, List.set_cons_zero, List.set_cons_succ]
      have hcA : ∀ (o : Obj), (fun W => W.cell? ⟨w.heap.size, 0, none⟩ = some (.string s) ∧ W.cell? ⟨w.heap.size, 1, none⟩ = some (.int .i64 ar) ∧ W.cell? ⟨w.heap.size, 3, none⟩ = some (.slice (some ⟨b0, o0, none⟩) (m + 1) uc) ∧ W.cell? ⟨b0, o0 + m * 3 + 1, none⟩ = some (.slice gb1 gn1 gc1)) (wN.alloc o) := fun o => ⟨cell_ad hSN.1, cell_ad hSN.2.1, cell_ad hSN.2.2.1, cell_ad hSN.2.2.2⟩
      have HCA := Lib.hid hcA
      refine wpAnyH_ready (rs := [17]) (by kernel_rfl) (by simp) ?_
      refine AllReadyH.cons rfl (fun K hK => ?_) AllReadyH.nil
      go_simp
      refine hK.out _ _ ?_ (fun hHeld => ?_)
      · exact HCA.out _
      clear hK K
      try simp only [Act.put, List.setIfInBounds_toArray, List.set_cons_zero, List.set_cons_succ]
      refine wpAnyH_ready (rs := [18]) (by kernel_rfl) (by simp) ?_
      refine AllReadyH.cons rfl (fun K hK => ?_) AllReadyH.nil
      go_simp
      refine hK.out _ _ ?_ (fun hHeld => ?_)
      · exact HCA.out _
      clear hK K
      try simp only [Act.put, List.setIfInBounds_toArray, List.set_cons_zero, List.set_cons_succ]
      refine wpAnyH_take (i := 19) (v := ?v19_20) rfl (by kernel_rfl) (by kernel_rfl) (by kernel_rfl) (fun _ _ _ h => h) (Or.inl ⟨by rfl, ?hy19_20⟩) (by assumption) ?rest19_20
      case hy19_20 => intro w hSw; (try dsimp only at hSw); go_simp; (try with_reducible rfl)
      try simp only [Act.put, List.getElem_toArray, List.getElem_cons_succ, List.getElem_cons_zero, List.setIfInBounds_toArray, List.set_cons_zero, List.set_cons_succ]
      refine wpAnyH_done (by kernel_rfl) ?_ _
      refine NoPanic.normal ?_
      have hbN := on hb2 zN
      have q0 := (zN.cell (p := ⟨w.heap.size + 1, 0, none⟩) (by simp only []; omega)).trans r_0
      have q1 := (zN.cell (p := ⟨w.heap.size + 1, 1, none⟩) (by simp only []; omega)).trans r_1
      have q2 := (zN.cell (p := ⟨w.heap.size + 1, 2, none⟩) (by simp only []; omega)).trans r_2
      have q3 := (zN.frozen (p := ⟨w.heap.size + 1, 0, none⟩) (by simp only []; omega)).trans r_f0
      have q4 := (zN.frozen (p := ⟨w.heap.size + 1, 1, none⟩) (by simp only []; omega)).trans r_f1
      have q5 := (zN.frozen (p := ⟨w.heap.size + 1, 2, none⟩) (by simp only []; omega)).trans r_f2
      have fr_ad : ∀ (i : Nat) (o : Obj), wN.frozen? ⟨w.heap.size + 1, i, none⟩ = false → (wN.alloc o).frozen? ⟨w.heap.size + 1, i, none⟩ = false := fun i o hx => (((Below.refl wN.heap.size wN).alloc (Nat.le_refl _) o).frozen (p := ⟨w.heap.size + 1, i, none⟩) (by simp only []; omega)).trans hx
      obtain ⟨OB, hOB⟩ : ∃ OB : Obj, OB = .cells #[.string tN.1, .int .i64 tN.2.1, .slice nb nn nc] 34 := ⟨_, rfl⟩
      have a0 := cell_ad (o := OB) q0
      have a1 := cell_ad (o := OB) q1
      have a2 := cell_ad (o := OB) q2
      have a3 := fr_ad 0 OB q3
      have a4 := fr_ad 1 OB q4
      have a5 := fr_ad 2 OB q5
      have hbA := hbN.alloc (by omega) OB
      have hsA : wN.heap.size ≤ (wN.alloc OB).heap.size := by simp
      have oA := (oN.below ((Below.refl wN.heap.size wN).alloc (Nat.le_refl _) OB) (Nat.le_refl _)).mono (lo' := w.heap.size + 1 + 1) (hi' := (wN.alloc OB).heap.size) (show w.heap.size + 1 + 1 ≤ w2.drew.heap.size from (by omega : w.heap.size + 1 + 1 ≤ w2.heap.size)) hsA
      have OA := Lib.hid oA
      have BA := Lib.hid hbA
      have SA := Lib.hid hsA
      rw [hOB] at a0 a1 a2 a3 a4 a5 OA BA SA
      clear fr_ad hbA hsA oA hOB oN q0 q1 q2 q3 q4 q5 HCA hcA
      go_wp2_with fail
      refine bodyPost_ret (v := .tuple #[.agg #[.string tN.1, .int .i64 tN.2.1, .slice nb nn nc], .bool f]) (by simp [results, Try.results161, go_sem, a0, a1, a2, a3, a4, a5]) rfl ⟨tN.1, tN.2.1, nb, nn, nc, tN, rfl, ?_, hN, ?_⟩
      · refine Own.mono (lo := w.heap.size + 1 + 1) (hi := (wN.alloc (.cells #[.string tN.1, .int .i64 tN.2.1, .slice nb nn nc] 34)).heap.size) ?_ (by omega) (by simp [World.setCell])
        repeat (refine Own.setOut ?_ rfl (by simp only []; omega))
        exact OA.out
      · repeat (refine Below.setCell ?_ (by simp only []; omega) _)
        exact BA.out
    · go_simp
      obtain ⟨WA, hWA⟩ : ∃ W, W = (w2.alloc (.cells #[.string ⟨#[]⟩, .int .i64 0, .slice none 0 0] 34)).drew := ⟨_, rfl⟩
      have zA : Below w2.heap.size w2 WA := by rw [hWA]; exact ((Below.refl _ _).alloc (Nat.le_refl _) _).drew
      have sA : w2.heap.size < WA.heap.size := by rw [hWA]; simp
      have z0 : WA.cell? ⟨w2.heap.size, 0, none⟩ = some (.string ⟨#[]⟩) := by rw [hWA]; exact box_cell (Below.drew (Below.refl _ _)) rfl
      have z1 : WA.cell? ⟨w2.heap.size, 1, none⟩ = some (.int .i64 0) := by rw [hWA]; exact box_cell (Below.drew (Below.refl _ _)) rfl
      have z2 : WA.cell? ⟨w2.heap.size, 2, none⟩ = some (.slice none 0 0) := by rw [hWA]; exact box_cell (Below.drew (Below.refl _ _)) rfl
      have y0 : WA.frozen? ⟨w2.heap.size, 0, none⟩ = false := by rw [hWA]; exact box_frozen (Below.drew (Below.refl _ _))
      have y1 : WA.frozen? ⟨w2.heap.size, 1, none⟩ = false := by rw [hWA]; exact box_frozen (Below.drew (Below.refl _ _))
      have y2 : WA.frozen? ⟨w2.heap.size, 2, none⟩ = false := by rw [hWA]; exact box_frozen (Below.drew (Below.refl _ _))
      have hE2 : w2.heap.size = w.heap.size + 1 + 1 := by omega
      rw [hE2] at z0 z1 z2 y0 y1 y2
      have hSA := (⟨(zA.cell (p := ⟨w.heap.size, 0, none⟩) (by simp only []; omega)).trans b_0, (zA.cell (p := ⟨w.heap.size, 1, none⟩) (by simp only []; omega)).trans b_1, (zA.cell (p := ⟨w.heap.size, 3, none⟩) (by simp only []; omega)).trans b_3, (zA.cell (p := ⟨b0, o0 + m * 3 + 1, none⟩) (by simp only []; omega)).trans e_1⟩ : (fun W => W.cell? ⟨w.heap.size, 0, none⟩ = some (.string s) ∧ W.cell? ⟨w.heap.size, 1, none⟩ = some (.int .i64 ar) ∧ W.cell? ⟨w.heap.size, 3, none⟩ = some (.slice (some ⟨b0, o0, none⟩) (m + 1) uc) ∧ W.cell? ⟨b0, o0 + m * 3 + 1, none⟩ = some (.slice gb1 gn1 gc1)) WA)
      rw [← hWA]
      clear hWA
      refine hK.out _ _ hSA (fun hHeld => ?_)
      clear hK K
      try simp only [Act.put, List.getElem_toArray, List.getElem_cons_succ, List.getElem_cons_zero, List.setIfInBounds_toArray, List.set_cons_zero, List.set_cons_succ]
      have hbA := on hb2 zA
      refine wpAnyH_ready (rs := [13]) (by kernel_rfl) (by simp) ?_
      refine AllReadyH.cons rfl (fun K hK => ?_) AllReadyH.nil
      go_simp; (refine (HNW.out _ hbA).mono ?_); rintro e wN ⟨cN, tN, rfl, oN, hN, zN⟩; obtain ⟨nb, nn, nc, rfl⟩ := oT_form oN; have sN := zN.size; have zAN := on zA zN; have hSN := (⟨(zN.cell (p := ⟨w.heap.size, 0, none⟩) (by simp only []; omega)).trans hSA.1, (zN.cell (p := ⟨w.heap.size, 1, none⟩) (by simp only []; omega)).trans hSA.2.1, (zN.cell (p := ⟨w.heap.size, 3, none⟩) (by simp only []; omega)).trans hSA.2.2.1, (zN.cell (p := ⟨b0, o0 + m * 3 + 1, none⟩) (by simp only []; omega)).trans hSA.2.2.2⟩ : (fun W => W.cell? ⟨w.heap.size, 0, none⟩ = some (.string s) ∧ W.cell? ⟨w.heap.size, 1, none⟩ = some (.int .i64 ar) ∧ W.cell? ⟨w.heap.size, 3, none⟩ = some (.slice (some ⟨b0, o0, none⟩) (m + 1) uc) ∧ W.cell? ⟨b0, o0 + m * 3 + 1, none⟩ = some (.slice gb1 gn1 gc1)) wN)
      refine hK.out _ _ ?_ (fun hHeld => ?_)
      · exact hSN
      clear hK K
      try simp only [Act.put, List.setIfInBounds_toArray, List.set_cons_zero, List.set_cons_succ]
      refine wpAnyH_take (i := 14) (v := ?v14_21) rfl (by kernel_rfl) (by kernel_rfl) (by kernel_rfl) (fun _ _ _ h => h) (Or.inl ⟨by rfl, ?hy14_21⟩) (by assumption) ?rest14_21
      case hy14_21 => intro w hSw; (try dsimp only at hSw); go_simp; (try with_reducible rfl)
      try simp only [Act.put, List.getElem_toArray, List.getElem_cons_succ, List.getElem_cons_zero, List.setIfInBounds_toArray, List.set_cons_zero, List.set_cons_succ]
      refine wpAnyH_take (i := 15) (v := ?v15_22) rfl (by kernel_rfl) (by kernel_rfl) (by kernel_rfl) (fun _ _ _ h => h) (Or.inl ⟨by rfl, ?hy15_22⟩) (by assumption) ?rest15_22
      case hy15_22 => intro w hSw; (try dsimp only at hSw); go_simp; (try with_reducible rfl)
      try simp only [Act.put, List.getElem_toArray, List.getElem_cons_succ, List.getElem_cons_zero, List.setIfInBounds_toArray, List.set_cons_zero, List.set_cons_succ]
      refine wpAnyH_take (i := 16) (v := ?v16_23) rfl (by kernel_rfl) (by kernel_rfl) (by kernel_rfl) (fun _ _ _ h => h) (Or.inl ⟨by rfl, ?hy16_23⟩) (by assumption) ?rest16_23
      case hy16_23 => intro w hSw; (try dsimp only at hSw); go_simp; (try with_reducible rfl)
      try simp only [Act.put, List.getElem_toArray, List.getElem_cons_succ, List.getElem_cons_zero, List.setIfInBounds_toArray, List.set_cons_zero, List.set_cons_succ]
      have v0 := (zN.cell (p := ⟨w.heap.size + 1 + 1, 0, none⟩) (by simp only []; omega)).trans z0
      have v1 := (zN.cell (p := ⟨w.heap.size + 1 + 1, 1, none⟩) (by simp only []; omega)).trans z1
      have v2 := (zN.cell (p := ⟨w.heap.size + 1 + 1, 2, none⟩) (by simp only []; omega)).trans z2
      have u0 := (zN.frozen (p := ⟨w.heap.size + 1 + 1, 0, none⟩) (by simp only []; omega)).trans y0
      have u1 := (zN.frozen (p := ⟨w.heap.size + 1 + 1, 1, none⟩) (by simp only []; omega)).trans y1
      have u2 := (zN.frozen (p := ⟨w.heap.size + 1 + 1, 2, none⟩) (by simp only []; omega)).trans y2
      obtain ⟨g_0, g_1, g_2, g_3⟩ := hSN
      have hgb : b0 < w.heap.size := e_lt
      refine wpAnyH_ready (rs := [18]) (by kernel_rfl) (by simp) ?_
      refine AllReadyH.cons rfl (fun K hK => ?_) AllReadyH.nil
      go_simp
      refine hK.out _ _ ?_ (fun hHeld => ?_)
      · (refine ⟨?_, ?_, ?_, ?_⟩ <;> go_simp)
      clear hK K
      try simp only [Act.put, List.setIfInBounds_toArray, List.set_cons_zero, List.set_cons_succ]
      refine wpAnyH_take (i := 19) (v := ?v19_24) rfl (by kernel_rfl) (by kernel_rfl) (by kernel_rfl) (fun _ _ _ h => h) (Or.inl ⟨by rfl, ?hy19_24⟩) (by assumption) ?rest19_24
      case hy19_24 => intro w hSw; (try dsimp only at hSw); go_simp; (try with_reducible rfl)
      try simp only [Act.put, List.getElem_toArray, List.getElem_cons_succ, List.getElem_cons_zero, List.setIfInBounds_toArray, List.set_cons_zero, List.set_cons_succ]
      refine wpAnyH_done (by kernel_rfl) ?_ _
      refine NoPanic.normal ?_
      have hbN := on hb2 zAN
      have q0 := (zAN.cell (p := ⟨w.heap.size + 1, 0, none⟩) (by simp only []; omega)).trans r_0
      have q1 := (zAN.cell (p := ⟨w.heap.size + 1, 1, none⟩) (by simp only []; omega)).trans r_1
      have q2 := (zAN.cell (p := ⟨w.heap.size + 1, 2, none⟩) (by simp only []; omega)).trans r_2
      have q3 := (zAN.frozen (p := ⟨w.heap.size + 1, 0, none⟩) (by simp only []; omega)).trans r_f0
      have q4 := (zAN.frozen (p := ⟨w.heap.size + 1, 1, none⟩) (by simp only []; omega)).trans r_f1
      have q5 := (zAN.frozen (p := ⟨w.heap.size + 1, 2, none⟩) (by simp only []; omega)).trans r_f2
      have oA := oN.mono (lo' := w2.heap.size + 1) (hi' := wN.heap.size) (by omega) (Nat.le_refl _)
      have OA := Lib.hid oA
      have BA := Lib.hid hbN
      clear oA oN hbN
      go_wp2_with fail
      refine bodyPost_ret (v := .tuple #[.agg #[.string tN.1, .int .i64 tN.2.1, .slice nb nn nc], .bool f]) (by simp [results, Try.results161, go_sem, q0, q1, q2, q3, q4, q5, v0, v1, v2, u0, u1, u2]) rfl ⟨tN.1, tN.2.1, nb, nn, nc, tN, rfl, ?_, hN, ?_⟩
      · refine Own.mono (lo := w2.heap.size + 1) (hi := wN.heap.size) ?_ (by omega) (by simp [World.setCell])
        repeat (refine Own.setOut ?_ rfl (by simp only []; omega))
        exact OA.out
      · repeat (refine Below.setCell ?_ (by simp only []; omega) _)
        exact BA.out

set_option maxRecDepth 100000 in
set_option maxHeartbeats 4000000 in
theorem validS_spec (cs : List Value) (x : DTs) (w : World) (h : rTs.rep w cs x) (hb : bulk_Ts x ≤ 10000000) :
    Calls Try.prog 89 #[.agg cs.toArray] w fun e w' => e = .returned (.bool (validS x)) ∧ Below w.heap.size w w' := by
  have HT := Lib.hid (fun W (hW : Below w.heap.size w W) => l13Table_any cs x W (rTs.mono h hW) hb)
  have HX := Lib.hid (fun W (hW : Below w.heap.size w W) => rTs.mono h hW)
  obtain ⟨ub, un, uc, rfl, hs, hi, hir, g3⟩ := rTs_open h
  obtain ⟨vs, hvs⟩ : ∃ vs, validS x = vs := ⟨_, rfl⟩
  obtain ⟨f, hf⟩ : ∃ f, (!decide (x.2.2.2 = []) && validT (newT x.1 x.2.1 (lastV x.2.2.2))) = f := ⟨_, rfl⟩
  obtain ⟨nt, hnt⟩ : ∃ nt, newT x.1 x.2.1 (lastV x.2.2.2) = nt := ⟨_, rfl⟩
  have HE : Hid (vs = (f && decide (statsOf nt = x))) := Lib.hid (by rw [← hvs, ← valid_same, validS', ← hf, hnt, Bool.and_assoc])
  rw [hnt] at hf
  simp only [hnt, hf] at HT
  rw [hvs]
  obtain ⟨s, ar, rc0, gs⟩ := x
  simp only at hs hi hir g3 HT HE HX
  clear h g3 hb hvs hf hnt
  have hb0 : Below w.heap.size w w := Below.refl _ _
  go_enter Try.func89, Try.ntmps89
  obtain ⟨w1, hw1⟩ : ∃ W, W = w.alloc (.cells #[.string s, .int .i64 ar, .int .i64 rc0, .slice ub un uc] 101) := ⟨_, rfl⟩
  have z1 : Below w.heap.size w w1 := by rw [hw1]; exact (Below.refl _ _).alloc (Nat.le_refl _) _
  have s1 : w1.heap.size = w.heap.size + 1 := by rw [hw1]; simp
  have hb1 := on hb0 z1
  have b_0 : w1.cell? ⟨w.heap.size, 0, none⟩ = some (.string s) := by rw [hw1]; exact box_cell (Below.refl _ _) rfl
  have b_1 : w1.cell? ⟨w.heap.size, 1, none⟩ = some (.int .i64 ar) := by rw [hw1]; exact box_cell (Below.refl _ _) rfl
  have b_2 : w1.cell? ⟨w.heap.size, 2, none⟩ = some (.int .i64 rc0) := by rw [hw1]; exact box_cell (Below.refl _ _) rfl
  have b_3 : w1.cell? ⟨w.heap.size, 3, none⟩ = some (.slice ub un uc) := by rw [hw1]; exact box_cell (Below.refl _ _) rfl
  have raw1_b_0 := b_0
  have raw1_b_1 := b_1
  have raw1_b_2 := b_2
  have raw1_b_3 := b_3
  rw [hw1] at raw1_b_0 raw1_b_1 raw1_b_2 raw1_b_3
  go_wp2_with fail
  rw [← hw1]
  clear hw1
  clear raw1_b_0 raw1_b_1 raw1_b_2 raw1_b_3
  refine (HT.out _ hb1).mono ?_
  rintro e w9 ⟨s1, i1, rb, rn, rc, t', rfl, oT9, hT9, z9⟩
  have s2 := z9.size
  have hb2 := on hb1 z9
  replace b_0 := (z9.cell (p := ⟨w.heap.size, 0, none⟩) (by simp only []; omega)).trans b_0
  replace b_1 := (z9.cell (p := ⟨w.heap.size, 1, none⟩) (by simp only []; omega)).trans b_1
  replace b_2 := (z9.cell (p := ⟨w.heap.size, 2, none⟩) (by simp only []; omega)).trans b_2
  replace b_3 := (z9.cell (p := ⟨w.heap.size, 3, none⟩) (by simp only []; omega)).trans b_3
  have HT9 := Lib.hid hT9
  have HO9 := Lib.hid oT9
  clear hT9 oT9
  obtain ⟨w3, hw3⟩ : ∃ W, W = w9.alloc (.cells #[.string s1, .int .i64 i1, .slice rb rn rc] 34) := ⟨_, rfl⟩
  have z3 : Below w9.heap.size w9 w3 := by rw [hw3]; exact (Below.refl _ _).alloc (Nat.le_refl _) _
  have s3 : w3.heap.size = w9.heap.size + 1 := by rw [hw3]; simp
  have hb3 := on hb2 z3
  have old3_b_0 := b_0
  have old3_b_1 := b_1
  have old3_b_2 := b_2
  have old3_b_3 := b_3
  replace b_0 := (z3.cell (p := ⟨w.heap.size, 0, none⟩) (by simp only []; omega)).trans b_0
  replace b_1 := (z3.cell (p := ⟨w.heap.size, 1, none⟩) (by simp only []; omega)).trans b_1
  replace b_2 := (z3.cell (p := ⟨w.heap.size, 2, none⟩) (by simp only []; omega)).trans b_2
  replace b_3 := (z3.cell (p := ⟨w.heap.size, 3, none⟩) (by simp only []; omega)).trans b_3
  have t_0 : w3.cell? ⟨w9.heap.size, 0, none⟩ = some (.string s1) := by rw [hw3]; exact box_cell (Below.refl _ _) rfl
  have t_1 : w3.cell? ⟨w9.heap.size, 1, none⟩ = some (.int .i64 i1) := by rw [hw3]; exact box_cell (Below.refl _ _) rfl
  have t_2 : w3.cell? ⟨w9.heap.size, 2, none⟩ = some (.slice rb rn rc) := by rw [hw3]; exact box_cell (Below.refl _ _) rfl
  have raw3_b_0 := b_0
  have raw3_b_1 := b_1
  have raw3_b_2 := b_2
  have raw3_b_3 := b_3
  have raw3_t_0 := t_0
  have raw3_t_1 := t_1
  have raw3_t_2 := t_2
  rw [hw3] at raw3_b_0 raw3_b_1 raw3_b_2 raw3_b_3 raw3_t_0 raw3_t_1 raw3_t_2
  cases f with
  | false =>
    have HF : Hid (vs = false) := Lib.hid (by rw [HE.out]; rfl)
    go_wp2_with fail
    rw [← hw3]
    clear hw3
    clear old3_b_0 old3_b_1 old3_b_2 old3_b_3 raw3_b_0 raw3_b_1 raw3_b_2 raw3_b_3 raw3_t_0 raw3_t_1 raw3_t_2
    go_quiet (fail)
    go_wp2_with fail
    go_ret
    exact ⟨ret_bool HF.out.symm, (hb3).trans (Drew.below ⟨_, rfl⟩ _)⟩
  | true =>
    have HF : Hid (vs = decide (statsOf nt = (s, ar, rc0, gs))) := Lib.hid (by rw [HE.out]; rfl)
    have hte := HT9.out rfl
    have hor := HO9.out
    rw [hte] at hor
    have HR := Lib.hid (fun W (hW : Below w9.heap.size w9 W) => stats_spec _ nt W (rT.mono (hor.rd reads_T) hW))
    have z9t := z3
    clear hte hor
    go_wp2_with fail
    rw [← hw3]
    clear hw3
    clear old3_b_0 old3_b_1 old3_b_2 old3_b_3 raw3_b_0 raw3_b_1 raw3_b_2 raw3_b_3 raw3_t_0 raw3_t_1 raw3_t_2
    have hbd : Below w3.heap.size w3 w3.drew := (Below.refl _ _).drew
    refine wp_region_noPanic ?_
    refine wp_region_held_drew (S := (fun W => W.cell? ⟨w9.heap.size, 0, none⟩ = some (.string s1) ∧ W.cell? ⟨w9.heap.size, 1, none⟩ = some (.int .i64 i1) ∧ W.cell? ⟨w9.heap.size, 2, none⟩ = some (.slice rb rn rc) ∧ W.cell? ⟨w.heap.size, 0, none⟩ = some (.string s) ∧ W.cell? ⟨w.heap.size, 1, none⟩ = some (.int .i64 ar) ∧ W.cell? ⟨w.heap.size, 2, none⟩ = some (.int .i64 rc0) ∧ W.cell? ⟨w.heap.size, 3, none⟩ = some (.slice ub un uc))) (by kernel_rfl) ?hS4 (fun hHeld => ?_)
    case hS4 => exact ⟨t_0, t_1, t_2, b_0, b_1, b_2, b_3⟩
    refine wpAnyH_take (i := 0) (v := ?v0_5) rfl (by kernel_rfl) (by kernel_rfl) (by kernel_rfl) (fun _ _ _ h => h) (Or.inl ⟨by rfl, ?hy0_5⟩) (by assumption) ?rest0_5
    case hy0_5 => intro w hSw; (try dsimp only at hSw); go_simp; (try with_reducible rfl)
    try simp only [Act.put, List.getElem_toArray, List.getElem_cons_succ, List.getElem_cons_zero, List.setIfInBounds_toArray, List.set_cons_zero, List.set_cons_succ]
    refine wpAnyH_take (i := 1) (v := ?v1_6) rfl (by kernel_rfl) (by kernel_rfl) (by kernel_rfl) (fun _ _ _ h => h) (Or.inl ⟨by rfl, ?hy1_6⟩) (by assumption) ?rest1_6
    case hy1_6 => intro w hSw; (try dsimp only at hSw); go_simp; (try with_reducible rfl)
    try simp only [Act.put, List.getElem_toArray, List.getElem_cons_succ, List.getElem_cons_zero, List.setIfInBounds_toArray, List.set_cons_zero, List.set_cons_succ]
    refine wpAnyH_take (i := 2) (v := ?v2_7) rfl (by kernel_rfl) (by kernel_rfl) (by kernel_rfl) (fun _ _ _ h => h) (Or.inl ⟨by rfl, ?hy2_7⟩) (by assumption) ?rest2_7
    case hy2_7 => intro w hSw; (try dsimp only at hSw); go_simp; (try with_reducible rfl)
    try simp only [Act.put, List.getElem_toArray, List.getElem_cons_succ, List.getElem_cons_zero, List.setIfInBounds_toArray, List.set_cons_zero, List.set_cons_succ]
    refine wpAnyH_take (i := 4) (v := ?v4_8) rfl (by kernel_rfl) (by kernel_rfl) (by kernel_rfl) (fun _ _ _ h => h) (Or.inl ⟨by rfl, ?hy4_8⟩) (by assumption) ?rest4_8
    case hy4_8 => intro w hSw; (try dsimp only at hSw); go_simp; (try with_reducible rfl)
    try simp only [Act.put, List.getElem_toArray, List.getElem_cons_succ, List.getElem_cons_zero, List.setIfInBounds_toArray, List.set_cons_zero, List.set_cons_succ]
    refine wpAnyH_ready (rs := [3]) (by kernel_rfl) (by simp) ?_
    refine AllReadyH.cons rfl (fun K hK => ?_) AllReadyH.nil
    go_simp; (refine (HR.out _ (on z9t hbd)).mono ?_); rintro e wB ⟨dsB, rfl, oB, zB⟩; obtain ⟨ub3, un3, uc3, rfl⟩ := oTs_form oB; replace zB : Below w3.heap.size w3 wB := on hbd zB; have sB := zB.size; have hSB := (⟨(zB.cell (p := ⟨w9.heap.size, 0, none⟩) (by simp only []; omega)).trans t_0, (zB.cell (p := ⟨w9.heap.size, 1, none⟩) (by simp only []; omega)).trans t_1, (zB.cell (p := ⟨w9.heap.size, 2, none⟩) (by simp only []; omega)).trans t_2, (zB.cell (p := ⟨w.heap.size, 0, none⟩) (by simp only []; omega)).trans b_0, (zB.cell (p := ⟨w.heap.size, 1, none⟩) (by simp only []; omega)).trans b_1, (zB.cell (p := ⟨w.heap.size, 2, none⟩) (by simp only []; omega)).trans b_2, (zB.cell (p := ⟨w.heap.size, 3, none⟩) (by simp only []; omega)).trans b_3⟩ : (fun W => W.cell? ⟨w9.heap.size, 0, none⟩ = some (.string s1) ∧ W.cell? ⟨w9.heap.size, 1, none⟩ = some (.int .i64 i1) ∧ W.cell? ⟨w9.heap.size, 2, none⟩ = some (.slice rb rn rc) ∧ W.cell? ⟨w.heap.size, 0, none⟩ = some (.string s) ∧ W.cell? ⟨w.heap.size, 1, none⟩ = some (.int .i64 ar) ∧ W.cell? ⟨w.heap.size, 2, none⟩ = some (.int .i64 rc0) ∧ W.cell? ⟨w.heap.size, 3, none⟩ = some (.slice ub un uc)) wB)
    refine hK.out _ _ ?_ (fun hHeld => ?_)
    · exact hSB
    clear hK K
    try simp only [Act.put, List.setIfInBounds_toArray, List.set_cons_zero, List.set_cons_succ]
    refine wpAnyH_ready (rs := [5]) (by kernel_rfl) (by simp) ?_
    refine AllReadyH.cons rfl (fun K hK => ?_) AllReadyH.nil
    go_simp; (refine (equalTs_spec _ _ (statsOf nt) (s, ar, rc0, gs) _ (oB.rd reads_Ts) (HX.out _ (on hb3 zB))).mono ?_); rintro e wC ⟨rfl, zC⟩; have sC := zC.size; have hSC := (⟨(zC.cell (p := ⟨w9.heap.size, 0, none⟩) (by simp only []; omega)).trans hSB.1, (zC.cell (p := ⟨w9.heap.size, 1, none⟩) (by simp only []; omega)).trans hSB.2.1, (zC.cell (p := ⟨w9.heap.size, 2, none⟩) (by simp only []; omega)).trans hSB.2.2.1, (zC.cell (p := ⟨w.heap.size, 0, none⟩) (by simp only []; omega)).trans hSB.2.2.2.1, (zC.cell (p := ⟨w.heap.size, 1, none⟩) (by simp only []; omega)).trans hSB.2.2.2.2.1, (zC.cell (p := ⟨w.heap.size, 2, none⟩) (by simp only []; omega)).trans hSB.2.2.2.2.2.1, (zC.cell (p := ⟨w.heap.size, 3, none⟩) (by simp only []; omega)).trans hSB.2.2.2.2.2.2⟩ : (fun W => W.cell? ⟨w9.heap.size, 0, none⟩ = some (.string s1) ∧ W.cell? ⟨w9.heap.size, 1, none⟩ = some (.int .i64 i1) ∧ W.cell? ⟨w9.heap.size, 2, none⟩ = some (.slice rb rn rc) ∧ W.cell? ⟨w.heap.size, 0, none⟩ = some (.string s) ∧ W.cell? ⟨w.heap.size, 1, none⟩ = some (.int .i64 ar) ∧ W.cell? ⟨w.heap.size, 2, none⟩ = some (.int .i64 rc0) ∧ W.cell? ⟨w.heap.size, 3, none⟩ = some (.slice ub un uc)) wC)
    refine hK.out _ _ ?_ (fun hHeld => ?_)
    · exact hSC
    clear hK K
    try simp only [Act.put, List.setIfInBounds_toArray, List.set_cons_zero, List.set_cons_succ]
    refine wpAnyH_take (i := 6) (v := ?v6_9) rfl (by kernel_rfl) (by kernel_rfl) (by kernel_rfl) (fun _ _ _ h => h) (Or.inl ⟨by rfl, ?hy6_9⟩) (by assumption) ?rest6_9
    case hy6_9 => intro w hSw; (try dsimp only at hSw); go_simp; (try with_reducible rfl)
    try simp only [Act.put, List.getElem_toArray, List.getElem_cons_succ, List.getElem_cons_zero, List.setIfInBounds_toArray, List.set_cons_zero, List.set_cons_succ]
    refine wpAnyH_take (i := 7) (v := ?v7_10) rfl (by kernel_rfl) (by kernel_rfl) (by kernel_rfl) (fun _ _ _ h => h) (Or.inl ⟨by rfl, ?hy7_10⟩) (by assumption) ?rest7_10
    case hy7_10 => intro w hSw; (try dsimp only at hSw); go_simp; (try with_reducible rfl)
    try simp only [Act.put, List.getElem_toArray, List.getElem_cons_succ, List.getElem_cons_zero, List.setIfInBounds_toArray, List.set_cons_zero, List.set_cons_succ]
    refine wpAnyH_done (by kernel_rfl) ?_ _
    refine NoPanic.normal ?_
    go_wp2_with fail
    go_ret
    exact ⟨ret_bool HF.out.symm, on (on hb3 zB) zC⟩

end Go.Proofs.Ytbkoddikfpkocaa

/- The walk of the law IsValidStats. Written by a program. -/
namespace Go.Proofs.Ytbkoddikfpkocaa
open Go.RowKit
set_option linter.unusedVariables false
set_option linter.unusedSimpArgs false
set_option synthInstance.maxSize 2000
set_option synthInstance.maxHeartbeats 400000

set_option maxHeartbeats 4000000 in
set_option maxRecDepth 100000 in
theorem walk_FnExactIsValidStats (v0 : Value) (w : World) (h0 : kTs_in w v0) :
    Calls Try.prog 12 #[v0] w fun e w' => e = .returned (.bool true) ∧ Below w.heap.size w w' := by
  obtain ⟨c0, x0, rfl, h0⟩ := h0
  obtain ⟨bu0, nu0, cu0, rfl⟩ := rTs_form h0
  have hb0 : Below w.heap.size w w := Below.refl _ _
  go_enter Try.func12, Try.ntmps12
  obtain ⟨w1, hw1⟩ : ∃ W, W = w.alloc (.cells #[.string x0.1, .int .i64 x0.2.1, .int .i64 x0.2.2.1, .slice bu0 nu0 cu0] 108) := ⟨_, rfl⟩
  have z1 : Below w.heap.size w w1 := by rw [hw1]; exact (Below.refl _ _).alloc (Nat.le_refl _) _
  have s1 : w1.heap.size = w.heap.size + 1 := by rw [hw1]; simp
  have hb1 := on hb0 z1
  have bp0_0 : w1.cell? ⟨w.heap.size, 0, none⟩ = some (.string x0.1) := by rw [hw1]; exact box_cell (Below.refl _ _) rfl
  have bp0_1 : w1.cell? ⟨w.heap.size, 1, none⟩ = some (.int .i64 x0.2.1) := by rw [hw1]; exact box_cell (Below.refl _ _) rfl
  have bp0_2 : w1.cell? ⟨w.heap.size, 2, none⟩ = some (.int .i64 x0.2.2.1) := by rw [hw1]; exact box_cell (Below.refl _ _) rfl
  have bp0_3 : w1.cell? ⟨w.heap.size, 3, none⟩ = some (.slice bu0 nu0 cu0) := by rw [hw1]; exact box_cell (Below.refl _ _) rfl
  go_wp2_with fail
  rw [← hw1]
  clear hw1
  refine (sz_Ts _ x0 (1048576) _ (rTs.mono h0 hb1) (by omega) (by omega)).mono ?_
  rintro e w2 ⟨rfl, z2⟩
  have s2 := z2.size
  have hb2 := on hb1 z2
  replace bp0_0 := (z2.cell (p := ⟨w.heap.size, 0, none⟩) (by simp only []; omega)).trans bp0_0
  replace bp0_1 := (z2.cell (p := ⟨w.heap.size, 1, none⟩) (by simp only []; omega)).trans bp0_1
  replace bp0_2 := (z2.cell (p := ⟨w.heap.size, 2, none⟩) (by simp only []; omega)).trans bp0_2
  replace bp0_3 := (z2.cell (p := ⟨w.heap.size, 3, none⟩) (by simp only []; omega)).trans bp0_3
  obtain ⟨q0, hq0⟩ : ∃ q, q = szR (1048576) (bulk_Ts x0) := ⟨_, rfl⟩
  rw [← hq0]
  have hc0 := szR_cases (1048576) (bulk_Ts x0)
  rw [← hq0] at hc0
  clear hq0
  rcases hc0 with ⟨rfl, _⟩ | ⟨hq0, hbk0⟩
  · go_wp2_with fail
    go_ret
    exact ⟨rfl, hb2⟩
  have hlo0 : 0 ≤ q0 ∧ q0 ≤ 1048576 := by omega
  have hbl0 : bulk_Ts x0 ≤ 1048576 := by omega
  obtain ⟨hlo0, hlp0⟩ := hlo0
  have HQ0 := Lib.hid hq0
  clear hq0 hbk0
  go_wp2_with fail
  refine (to_Ts _ _ _ (rTs.mono h0 hb2) (by omega)).mono ?_
  rintro e w3 ⟨ct0, rfl, t0, z3⟩
  have s3 := z3.size
  have hb3 := on hb2 z3
  replace bp0_0 := (z3.cell (p := ⟨w.heap.size, 0, none⟩) (by simp only []; omega)).trans bp0_0
  replace bp0_1 := (z3.cell (p := ⟨w.heap.size, 1, none⟩) (by simp only []; omega)).trans bp0_1
  replace bp0_2 := (z3.cell (p := ⟨w.heap.size, 2, none⟩) (by simp only []; omega)).trans bp0_2
  replace bp0_3 := (z3.cell (p := ⟨w.heap.size, 3, none⟩) (by simp only []; omega)).trans bp0_3
  obtain ⟨but0, nut0, cut0, rfl⟩ := oTs_form t0
  go_wp2_with fail
  refine (validS_spec _ x0 _ (t0.rd reads_Ts) (by omega)).mono ?_
  rintro e w4 ⟨rfl, z4⟩
  have s4 := z4.size
  have hb4 := on hb3 z4
  replace t0 := t0.below z4 (by omega)
  replace bp0_0 := (z4.cell (p := ⟨w.heap.size, 0, none⟩) (by simp only []; omega)).trans bp0_0
  replace bp0_1 := (z4.cell (p := ⟨w.heap.size, 1, none⟩) (by simp only []; omega)).trans bp0_1
  replace bp0_2 := (z4.cell (p := ⟨w.heap.size, 2, none⟩) (by simp only []; omega)).trans bp0_2
  replace bp0_3 := (z4.cell (p := ⟨w.heap.size, 3, none⟩) (by simp only []; omega)).trans bp0_3
  clear t0
  go_wp2_with fail
  refine (to_Ts _ _ _ (rTs.mono h0 hb4) (by omega)).mono ?_
  rintro e w5 ⟨cy0, rfl, y0, z5⟩
  have s5 := z5.size
  have hb5 := on hb4 z5
  replace bp0_0 := (z5.cell (p := ⟨w.heap.size, 0, none⟩) (by simp only []; omega)).trans bp0_0
  replace bp0_1 := (z5.cell (p := ⟨w.heap.size, 1, none⟩) (by simp only []; omega)).trans bp0_1
  replace bp0_2 := (z5.cell (p := ⟨w.heap.size, 2, none⟩) (by simp only []; omega)).trans bp0_2
  replace bp0_3 := (z5.cell (p := ⟨w.heap.size, 3, none⟩) (by simp only []; omega)).trans bp0_3
  obtain ⟨buy0, nuy0, cuy0, rfl⟩ := oTs_form y0
  obtain ⟨w6, hw6⟩ : ∃ W, W = w5.alloc (.cells #[.string x0.1, .int .i64 x0.2.1, .int .i64 x0.2.2.1, .slice buy0 nuy0 cuy0] 101) := ⟨_, rfl⟩
  have z6 : Below w5.heap.size w5 w6 := by rw [hw6]; exact (Below.refl _ _).alloc (Nat.le_refl _) _
  have s6 : w6.heap.size = w5.heap.size + 1 := by rw [hw6]; simp
  have hb6 := on hb5 z6
  replace y0 := y0.below z6 (by omega)
  replace bp0_0 := (z6.cell (p := ⟨w.heap.size, 0, none⟩) (by simp only []; omega)).trans bp0_0
  replace bp0_1 := (z6.cell (p := ⟨w.heap.size, 1, none⟩) (by simp only []; omega)).trans bp0_1
  replace bp0_2 := (z6.cell (p := ⟨w.heap.size, 2, none⟩) (by simp only []; omega)).trans bp0_2
  replace bp0_3 := (z6.cell (p := ⟨w.heap.size, 3, none⟩) (by simp only []; omega)).trans bp0_3
  have by0_0 : w6.cell? ⟨w5.heap.size, 0, none⟩ = some (.string x0.1) := by rw [hw6]; exact box_cell (Below.refl _ _) rfl
  have by0_1 : w6.cell? ⟨w5.heap.size, 1, none⟩ = some (.int .i64 x0.2.1) := by rw [hw6]; exact box_cell (Below.refl _ _) rfl
  have by0_2 : w6.cell? ⟨w5.heap.size, 2, none⟩ = some (.int .i64 x0.2.2.1) := by rw [hw6]; exact box_cell (Below.refl _ _) rfl
  have by0_3 : w6.cell? ⟨w5.heap.size, 3, none⟩ = some (.slice buy0 nuy0 cuy0) := by rw [hw6]; exact box_cell (Below.refl _ _) rfl
  have raw_bp0_0 := bp0_0
  rw [hw6] at raw_bp0_0
  have raw_bp0_1 := bp0_1
  rw [hw6] at raw_bp0_1
  have raw_bp0_2 := bp0_2
  rw [hw6] at raw_bp0_2
  have raw_bp0_3 := bp0_3
  rw [hw6] at raw_bp0_3
  have raw_by0_0 := by0_0
  rw [hw6] at raw_by0_0
  have raw_by0_1 := by0_1
  rw [hw6] at raw_by0_1
  have raw_by0_2 := by0_2
  rw [hw6] at raw_by0_2
  have raw_by0_3 := by0_3
  rw [hw6] at raw_by0_3
  go_wp2_with fail
  rw [← hw6]
  clear hw6
  clear raw_bp0_0 raw_bp0_1 raw_bp0_2 raw_bp0_3 raw_by0_0 raw_by0_1 raw_by0_2 raw_by0_3
  refine (validS_impl _ x0 _ (y0.rd reads_Ts) (by omega)).mono ?_
  rintro e w7 ⟨rfl, z7⟩
  have s7 := z7.size
  have hb7 := on hb6 z7
  replace y0 := y0.below z7 (by omega)
  replace bp0_0 := (z7.cell (p := ⟨w.heap.size, 0, none⟩) (by simp only []; omega)).trans bp0_0
  replace bp0_1 := (z7.cell (p := ⟨w.heap.size, 1, none⟩) (by simp only []; omega)).trans bp0_1
  replace bp0_2 := (z7.cell (p := ⟨w.heap.size, 2, none⟩) (by simp only []; omega)).trans bp0_2
  replace bp0_3 := (z7.cell (p := ⟨w.heap.size, 3, none⟩) (by simp only []; omega)).trans bp0_3
  replace by0_0 := (z7.cell (p := ⟨w5.heap.size, 0, none⟩) (by simp only []; omega)).trans by0_0
  replace by0_1 := (z7.cell (p := ⟨w5.heap.size, 1, none⟩) (by simp only []; omega)).trans by0_1
  replace by0_2 := (z7.cell (p := ⟨w5.heap.size, 2, none⟩) (by simp only []; omega)).trans by0_2
  replace by0_3 := (z7.cell (p := ⟨w5.heap.size, 3, none⟩) (by simp only []; omega)).trans by0_3
  go_wp2_with fail
  go_region_held3 (fun W => W.cell? ⟨w5.heap.size, 0, none⟩ = some (.string x0.1) ∧ W.cell? ⟨w5.heap.size, 1, none⟩ = some (.int .i64 x0.2.1) ∧ W.cell? ⟨w5.heap.size, 2, none⟩ = some (.int .i64 x0.2.2.1) ∧ W.cell? ⟨w5.heap.size, 3, none⟩ = some (.slice buy0 nuy0 cuy0) ∧ W.cell? ⟨w.heap.size, 0, none⟩ = some (.string x0.1) ∧ W.cell? ⟨w.heap.size, 1, none⟩ = some (.int .i64 x0.2.1) ∧ W.cell? ⟨w.heap.size, 2, none⟩ = some (.int .i64 x0.2.2.1) ∧ W.cell? ⟨w.heap.size, 3, none⟩ = some (.slice bu0 nu0 cu0)) (first | exact ⟨by0_0, by0_1, by0_2, by0_3, bp0_0, bp0_1, bp0_2, bp0_3⟩ | assumption) (first | (go_at_call 90; refine (to_Ts _ x0 _ (rTs.mono h0 hb7.drew) (by omega)).mono ?_; rintro e w8 ⟨du0, rfl, u0, z8⟩; replace z8 : Below w7.heap.size w7 w8 := (Below.refl _ _).drew.trans z8; have hS0 := (⟨(z8.cell (p := ⟨w5.heap.size, 0, none⟩) (by simp only []; omega)).trans by0_0, (z8.cell (p := ⟨w5.heap.size, 1, none⟩) (by simp only []; omega)).trans by0_1, (z8.cell (p := ⟨w5.heap.size, 2, none⟩) (by simp only []; omega)).trans by0_2, (z8.cell (p := ⟨w5.heap.size, 3, none⟩) (by simp only []; omega)).trans by0_3, (z8.cell (p := ⟨w.heap.size, 0, none⟩) (by simp only []; omega)).trans bp0_0, (z8.cell (p := ⟨w.heap.size, 1, none⟩) (by simp only []; omega)).trans bp0_1, (z8.cell (p := ⟨w.heap.size, 2, none⟩) (by simp only []; omega)).trans bp0_2, (z8.cell (p := ⟨w.heap.size, 3, none⟩) (by simp only []; omega)).trans bp0_3⟩ : (fun W => W.cell? ⟨w5.heap.size, 0, none⟩ = some (.string x0.1) ∧ W.cell? ⟨w5.heap.size, 1, none⟩ = some (.int .i64 x0.2.1) ∧ W.cell? ⟨w5.heap.size, 2, none⟩ = some (.int .i64 x0.2.2.1) ∧ W.cell? ⟨w5.heap.size, 3, none⟩ = some (.slice buy0 nuy0 cuy0) ∧ W.cell? ⟨w.heap.size, 0, none⟩ = some (.string x0.1) ∧ W.cell? ⟨w.heap.size, 1, none⟩ = some (.int .i64 x0.2.1) ∧ W.cell? ⟨w.heap.size, 2, none⟩ = some (.int .i64 x0.2.2.1) ∧ W.cell? ⟨w.heap.size, 3, none⟩ = some (.slice bu0 nu0 cu0)) w8); obtain ⟨buu0, nuu0, cuu0, rfl⟩ := oTs_form u0; have y0' := y0.below z8 (by omega)) | (go_at_call 85; refine (eq_Ts _ _ x0 x0 _ (y0'.rd reads_Ts) (u0.rd reads_Ts)).mono ?_; rintro e w9 ⟨rfl, z9⟩; have s8 := z8.size; have hT0 := (⟨(z9.cell (p := ⟨w5.heap.size, 0, none⟩) (by simp only []; omega)).trans hS0.1, (z9.cell (p := ⟨w5.heap.size, 1, none⟩) (by simp only []; omega)).trans hS0.2.1, (z9.cell (p := ⟨w5.heap.size, 2, none⟩) (by simp only []; omega)).trans hS0.2.2.1, (z9.cell (p := ⟨w5.heap.size, 3, none⟩) (by simp only []; omega)).trans hS0.2.2.2.1, (z9.cell (p := ⟨w.heap.size, 0, none⟩) (by simp only []; omega)).trans hS0.2.2.2.2.1, (z9.cell (p := ⟨w.heap.size, 1, none⟩) (by simp only []; omega)).trans hS0.2.2.2.2.2.1, (z9.cell (p := ⟨w.heap.size, 2, none⟩) (by simp only []; omega)).trans hS0.2.2.2.2.2.2.1, (z9.cell (p := ⟨w.heap.size, 3, none⟩) (by simp only []; omega)).trans hS0.2.2.2.2.2.2.2⟩ : (fun W => W.cell? ⟨w5.heap.size, 0, none⟩ = some (.string x0.1) ∧ W.cell? ⟨w5.heap.size, 1, none⟩ = some (.int .i64 x0.2.1) ∧ W.cell? ⟨w5.heap.size, 2, none⟩ = some (.int .i64 x0.2.2.1) ∧ W.cell? ⟨w5.heap.size, 3, none⟩ = some (.slice buy0 nuy0 cuy0) ∧ W.cell? ⟨w.heap.size, 0, none⟩ = some (.string x0.1) ∧ W.cell? ⟨w.heap.size, 1, none⟩ = some (.int .i64 x0.2.1) ∧ W.cell? ⟨w.heap.size, 2, none⟩ = some (.int .i64 x0.2.2.1) ∧ W.cell? ⟨w.heap.size, 3, none⟩ = some (.slice bu0 nu0 cu0)) w9)))
  replace z8 : Below w7.heap.size w7 w8 := z8
  clear u0 y0' hS0 hT0
  have t8 := z8.size
  have hb8 := on hb7 z8
  replace y0 := y0.below z8 (by omega)
  replace bp0_0 := (z8.cell (p := ⟨w.heap.size, 0, none⟩) (by simp only []; omega)).trans bp0_0
  replace bp0_1 := (z8.cell (p := ⟨w.heap.size, 1, none⟩) (by simp only []; omega)).trans bp0_1
  replace bp0_2 := (z8.cell (p := ⟨w.heap.size, 2, none⟩) (by simp only []; omega)).trans bp0_2
  replace bp0_3 := (z8.cell (p := ⟨w.heap.size, 3, none⟩) (by simp only []; omega)).trans bp0_3
  replace by0_0 := (z8.cell (p := ⟨w5.heap.size, 0, none⟩) (by simp only []; omega)).trans by0_0
  replace by0_1 := (z8.cell (p := ⟨w5.heap.size, 1, none⟩) (by simp only []; omega)).trans by0_1
  replace by0_2 := (z8.cell (p := ⟨w5.heap.size, 2, none⟩) (by simp only []; omega)).trans by0_2
  replace by0_3 := (z8.cell (p := ⟨w5.heap.size, 3, none⟩) (by simp only []; omega)).trans by0_3
  have t9 := z9.size
  have hb9 := on hb8 z9
  replace y0 := y0.below z9 (by omega)
  replace bp0_0 := (z9.cell (p := ⟨w.heap.size, 0, none⟩) (by simp only []; omega)).trans bp0_0
  replace bp0_1 := (z9.cell (p := ⟨w.heap.size, 1, none⟩) (by simp only []; omega)).trans bp0_1
  replace bp0_2 := (z9.cell (p := ⟨w.heap.size, 2, none⟩) (by simp only []; omega)).trans bp0_2
  replace bp0_3 := (z9.cell (p := ⟨w.heap.size, 3, none⟩) (by simp only []; omega)).trans bp0_3
  replace by0_0 := (z9.cell (p := ⟨w5.heap.size, 0, none⟩) (by simp only []; omega)).trans by0_0
  replace by0_1 := (z9.cell (p := ⟨w5.heap.size, 1, none⟩) (by simp only []; omega)).trans by0_1
  replace by0_2 := (z9.cell (p := ⟨w5.heap.size, 2, none⟩) (by simp only []; omega)).trans by0_2
  replace by0_3 := (z9.cell (p := ⟨w5.heap.size, 3, none⟩) (by simp only []; omega)).trans by0_3
  go_wp2_with fail
  go_ret
  exact ⟨rfl, hb9⟩

end Go.Proofs.Ytbkoddikfpkocaa
