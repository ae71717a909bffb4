/- Texts joined for one claim: KeyS, LIsKey. -/
import Derived.Test.YtbkoddikfpkocaaQccbda07072
import Derived.Deep.RegionHeld3

/- Contracts: whether columns are a key, by the reference. -/
namespace Go.Proofs.Ytbkoddikfpkocaa
open Go.RowKit
set_option linter.unusedVariables false
set_option linter.unusedSimpArgs false
set_option synthInstance.maxSize 2000
set_option synthInstance.maxHeartbeats 400000

set_option maxHeartbeats 2000000 in
theorem isKey_spec (u v : Value) (cs : List Value) (ds : List DDp) (t : DT) (cols : List Int) (w : World) (h : rDl.rep w [u] ds) (ht : rT.rep w cs t) (h' : rI.rep w [v] cols) :
    Calls Try.prog 69 #[u, .agg cs.toArray, v] w fun e w' => e = .returned (.bool (isKey ds t cols)) ∧ Below w.heap.size w w' := by
  obtain ⟨a, n, c, hv⟩ := rS_form h
  simp at hv; subst hv
  obtain ⟨b, m, d, hv⟩ := rI_form h'
  simp at hv; subst hv
  obtain ⟨ub, un, uc, rfl, hs, hi, g1⟩ := rT_open ht
  have i0 := rI_ints h'
  have HVT := Lib.hid (fun W (hW : Below w.heap.size w W) => l10Cols_any _ t b m d cols W (rT.mono ht hW) (i0.below hW))
  have HCL := Lib.hid (fun name W (hW : Below w.heap.size w W) => closure_spec' _ _ ds name cols W (rDl.mono h hW) (rI.mono h' hW))
  obtain ⟨s, ar, rows⟩ := t
  simp only at hs hi g1 HVT
  obtain ⟨l, hl⟩ : ∃ l, closure ds s cols = l := ⟨_, rfl⟩
  have HK : Hid (isKey ds (s, ar, rows) cols = (colsT (s, ar, rows) cols && coverB l ar.toNat)) := Lib.hid (by rw [← hl]; rfl)
  have HAR : Hid (colsT (s, ar, rows) cols = true → 1 ≤ ar ∧ ar ≤ 3) := Lib.hid (fun h => by rw [colsT, Bool.and_eq_true] at h; exact (TOk.of h.2).ar)
  obtain ⟨V, hV⟩ : ∃ V, colsT (s, ar, rows) cols = V := ⟨_, rfl⟩
  simp only [hV] at HVT
  rw [hV] at HK HAR
  have hcl := fun W (hW : Below w.heap.size w W) => HCL.out s W hW
  simp only [hl] at hcl
  have HC2 := Lib.hid hcl
  clear hV hl h ht g1 hs hi hcl HCL
  have hb0 : Below w.heap.size w w := Below.refl _ _
  go_enter Try.func69, Try.ntmps69
  obtain ⟨w1, hw1⟩ : ∃ W, W = w.alloc (.cells #[.string s, .int .i64 ar, .slice ub un uc] 34) := ⟨_, rfl⟩
  have z1 : Below w.heap.size w w1 := by rw [hw1]; exact (Below.refl _ _).alloc (Nat.le_refl _) _
  have s1 : w1.heap.size = w.heap.size + 1 := by rw [hw1]; simp
  have hb1 := on hb0 z1
  have t_0 : w1.cell? ⟨w.heap.size, 0, none⟩ = some (.string s) := by rw [hw1]; exact box_cell (Below.refl _ _) rfl
  have t_1 : w1.cell? ⟨w.heap.size, 1, none⟩ = some (.int .i64 ar) := by rw [hw1]; exact box_cell (Below.refl _ _) rfl
  have t_2 : w1.cell? ⟨w.heap.size, 2, none⟩ = some (.slice ub un uc) := by rw [hw1]; exact box_cell (Below.refl _ _) rfl
  have raw1_t_0 := t_0
  have raw1_t_1 := t_1
  have raw1_t_2 := t_2
  rw [hw1] at raw1_t_0 raw1_t_1 raw1_t_2
  cases V with
  | false =>
    go_wp2_with fail
    rw [← hw1]
    clear hw1
    clear raw1_t_0 raw1_t_1 raw1_t_2
    have hbd := hb1.drew
    refine wp_region_noPanic ?_
    refine wp_region_held_drew (S := (fun W => W.cell? ⟨w.heap.size, 0, none⟩ = some (.string s) ∧ W.cell? ⟨w.heap.size, 1, none⟩ = some (.int .i64 ar) ∧ W.cell? ⟨w.heap.size, 2, none⟩ = some (.slice ub un uc))) (by kernel_rfl) ?hS (fun hHeld => ?_)
    case hS => exact ⟨t_0, t_1, t_2⟩
    refine wpAnyH_take (i := 0) (v := ?v0_2) rfl (by kernel_rfl) (by kernel_rfl) (by kernel_rfl) (fun _ _ _ h => h) (Or.inl ⟨by rfl, ?hy0_2⟩) (by assumption) ?rest0_2
    case hy0_2 => intro w hSw; (try dsimp only at hSw); go_simp; (try with_reducible rfl)
    try simp only [Act.put, List.getElem_toArray, List.getElem_cons_succ, List.getElem_cons_zero, List.setIfInBounds_toArray, List.set_cons_zero, List.set_cons_succ]
    refine wpAnyH_take (i := 1) (v := ?v1_3) rfl (by kernel_rfl) (by kernel_rfl) (by kernel_rfl) (fun _ _ _ h => h) (Or.inl ⟨by rfl, ?hy1_3⟩) (by assumption) ?rest1_3
    case hy1_3 => intro w hSw; (try dsimp only at hSw); go_simp; (try with_reducible rfl)
    try simp only [Act.put, List.getElem_toArray, List.getElem_cons_succ, List.getElem_cons_zero, List.setIfInBounds_toArray, List.set_cons_zero, List.set_cons_succ]
    refine wpAnyH_ready (rs := [2]) (by kernel_rfl) (by simp) ?_
    refine AllReadyH.cons rfl (fun K hK => ?_) AllReadyH.nil
    go_simp; (refine (HVT.out _ hbd).mono ?_); rintro e wA ⟨rfl, zA⟩; replace zA : Below w1.heap.size w1 wA := on (Below.refl _ _).drew zA; have sA := zA.size; have hbA := on hb1 zA; have hSA := (⟨(zA.cell (p := ⟨w.heap.size, 0, none⟩) (by simp only []; omega)).trans t_0, (zA.cell (p := ⟨w.heap.size, 1, none⟩) (by simp only []; omega)).trans t_1, (zA.cell (p := ⟨w.heap.size, 2, none⟩) (by simp only []; omega)).trans t_2⟩ : (fun W => W.cell? ⟨w.heap.size, 0, none⟩ = some (.string s) ∧ W.cell? ⟨w.heap.size, 1, none⟩ = some (.int .i64 ar) ∧ W.cell? ⟨w.heap.size, 2, none⟩ = some (.slice ub un uc)) wA)
    refine hK.out _ _ ?_ (fun hHeld => ?_)
    · exact hSA
    clear hK K
    try simp only [Act.put, List.setIfInBounds_toArray, List.set_cons_zero, List.set_cons_succ]
    refine wpAnyH_take (i := 3) (v := ?v3_4) rfl (by kernel_rfl) (by kernel_rfl) (by kernel_rfl) (fun _ _ _ h => h) (Or.inl ⟨by rfl, ?hy3_4⟩) (by assumption) ?rest3_4
    case hy3_4 => intro w hSw; (try dsimp only at hSw); go_simp; (try with_reducible rfl)
    try simp only [Act.put, List.getElem_toArray, List.getElem_cons_succ, List.getElem_cons_zero, List.setIfInBounds_toArray, List.set_cons_zero, List.set_cons_succ]
    refine wpAnyH_take (i := 4) (v := undef) rfl (by kernel_rfl) (by kernel_rfl) (by kernel_rfl) (fun _ _ _ h => h) (Or.inr ⟨by rfl, rfl⟩) (by assumption) ?_
    try simp only [Act.put, List.getElem_toArray, List.getElem_cons_succ, List.getElem_cons_zero, List.setIfInBounds_toArray, List.set_cons_zero, List.set_cons_succ]
    refine wpAnyH_take (i := 5) (v := undef) rfl (by kernel_rfl) (by kernel_rfl) (by kernel_rfl) (fun _ _ _ h => h) (Or.inr ⟨by rfl, rfl⟩) (by assumption) ?_
    try simp only [Act.put, List.getElem_toArray, List.getElem_cons_succ, List.getElem_cons_zero, List.setIfInBounds_toArray, List.set_cons_zero, List.set_cons_succ]
    refine wpAnyH_take (i := 6) (v := undef) rfl (by kernel_rfl) (by kernel_rfl) (by kernel_rfl) (fun _ _ _ h => h) (Or.inr ⟨by rfl, rfl⟩) (by assumption) ?_
    try simp only [Act.put, List.getElem_toArray, List.getElem_cons_succ, List.getElem_cons_zero, List.setIfInBounds_toArray, List.set_cons_zero, List.set_cons_succ]
    refine wpAnyH_take (i := 7) (v := undef) rfl (by kernel_rfl) (by kernel_rfl) (by kernel_rfl) (fun _ _ _ h => h) (Or.inr ⟨by rfl, rfl⟩) (by assumption) ?_
    try simp only [Act.put, List.getElem_toArray, List.getElem_cons_succ, List.getElem_cons_zero, List.setIfInBounds_toArray, List.set_cons_zero, List.set_cons_succ]
    refine wpAnyH_take (i := 8) (v := undef) rfl (by kernel_rfl) (by kernel_rfl) (by kernel_rfl) (fun _ _ _ h => h) (Or.inr ⟨by rfl, rfl⟩) (by assumption) ?_
    try simp only [Act.put, List.getElem_toArray, List.getElem_cons_succ, List.getElem_cons_zero, List.setIfInBounds_toArray, List.set_cons_zero, List.set_cons_succ]
    refine wpAnyH_take (i := 9) (v := undef) rfl (by kernel_rfl) (by kernel_rfl) (by kernel_rfl) (fun _ _ _ h => h) (Or.inr ⟨by rfl, rfl⟩) (by assumption) ?_
    try simp only [Act.put, List.getElem_toArray, List.getElem_cons_succ, List.getElem_cons_zero, List.setIfInBounds_toArray, List.set_cons_zero, List.set_cons_succ]
    refine wpAnyH_take (i := 10) (v := undef) rfl (by kernel_rfl) (by kernel_rfl) (by kernel_rfl) (fun _ _ _ h => h) (Or.inr ⟨by rfl, rfl⟩) (by assumption) ?_
    try simp only [Act.put, List.getElem_toArray, List.getElem_cons_succ, List.getElem_cons_zero, List.setIfInBounds_toArray, List.set_cons_zero, List.set_cons_succ]
    refine wpAnyH_take (i := 11) (v := undef) rfl (by kernel_rfl) (by kernel_rfl) (by kernel_rfl) (fun _ _ _ h => h) (Or.inr ⟨by rfl, rfl⟩) (by assumption) ?_
    try simp only [Act.put, List.getElem_toArray, List.getElem_cons_succ, List.getElem_cons_zero, List.setIfInBounds_toArray, List.set_cons_zero, List.set_cons_succ]
    refine wpAnyH_take (i := 12) (v := ?v12_5) rfl (by kernel_rfl) (by kernel_rfl) (by kernel_rfl) (fun _ _ _ h => h) (Or.inl ⟨by rfl, ?hy12_5⟩) (by assumption) ?rest12_5
    case hy12_5 => intro w hSw; (try dsimp only at hSw); go_simp; (try with_reducible rfl)
    try simp only [Act.put, List.getElem_toArray, List.getElem_cons_succ, List.getElem_cons_zero, List.setIfInBounds_toArray, List.set_cons_zero, List.set_cons_succ]
    refine wpAnyH_take (i := 13) (v := ?v13_6) rfl (by kernel_rfl) (by kernel_rfl) (by kernel_rfl) (fun _ _ _ h => h) (Or.inl ⟨by rfl, ?hy13_6⟩) (by assumption) ?rest13_6
    case hy13_6 => intro w hSw; (try dsimp only at hSw); go_simp; (try with_reducible rfl)
    try simp only [Act.put, List.getElem_toArray, List.getElem_cons_succ, List.getElem_cons_zero, List.setIfInBounds_toArray, List.set_cons_zero, List.set_cons_succ]
    refine wpAnyH_done (by kernel_rfl) ?_ _
    refine NoPanic.normal ?_
    go_wp2_with fail
    go_ret
    exact ⟨ret_bool (by rw [HK.out]; rfl), hbA⟩
  | true =>
    have hA := HAR.out rfl
    obtain ⟨N, rfl⟩ : ∃ N : Nat, ar = (N : Int) := ⟨ar.toNat, by omega⟩
    rw [Int.toNat_natCast] at HK
    have hN3 : N ≤ 3 := by omega
    clear HAR hA
    obtain ⟨y, hy⟩ : ∃ y, coverB l N = y := ⟨_, rfl⟩
    rw [hy] at HK
    have HY := Lib.hid hy
    clear hy
    go_wp2_with fail
    rw [← hw1]
    clear hw1
    clear raw1_t_0 raw1_t_1 raw1_t_2
    have hbd := hb1.drew
    refine wp_region_noPanic ?_
    refine wp_region_held_drew (S := (fun W => W.cell? ⟨w.heap.size, 0, none⟩ = some (.string s) ∧ W.cell? ⟨w.heap.size, 1, none⟩ = some (.int .i64 (N : Int)) ∧ W.cell? ⟨w.heap.size, 2, none⟩ = some (.slice ub un uc))) (by kernel_rfl) ?hS (fun hHeld => ?_)
    case hS => exact ⟨t_0, t_1, t_2⟩
    refine wpAnyH_take (i := 0) (v := ?v0_7) rfl (by kernel_rfl) (by kernel_rfl) (by kernel_rfl) (fun _ _ _ h => h) (Or.inl ⟨by rfl, ?hy0_7⟩) (by assumption) ?rest0_7
    case hy0_7 => intro w hSw; (try dsimp only at hSw); go_simp; (try with_reducible rfl)
    try simp only [Act.put, List.getElem_toArray, List.getElem_cons_succ, List.getElem_cons_zero, List.setIfInBounds_toArray, List.set_cons_zero, List.set_cons_succ]
    refine wpAnyH_take (i := 1) (v := ?v1_8) rfl (by kernel_rfl) (by kernel_rfl) (by kernel_rfl) (fun _ _ _ h => h) (Or.inl ⟨by rfl, ?hy1_8⟩) (by assumption) ?rest1_8
    case hy1_8 => intro w hSw; (try dsimp only at hSw); go_simp; (try with_reducible rfl)
    try simp only [Act.put, List.getElem_toArray, List.getElem_cons_succ, List.getElem_cons_zero, List.setIfInBounds_toArray, List.set_cons_zero, List.set_cons_succ]
    refine wpAnyH_ready (rs := [2]) (by kernel_rfl) (by simp) ?_
    refine AllReadyH.cons rfl (fun K hK => ?_) AllReadyH.nil
    go_simp; (refine (HVT.out _ hbd).mono ?_); rintro e wA ⟨rfl, zA⟩; replace zA : Below w1.heap.size w1 wA := on (Below.refl _ _).drew zA; have sA := zA.size; have hbA := on hb1 zA; have hSA := (⟨(zA.cell (p := ⟨w.heap.size, 0, none⟩) (by simp only []; omega)).trans t_0, (zA.cell (p := ⟨w.heap.size, 1, none⟩) (by simp only []; omega)).trans t_1, (zA.cell (p := ⟨w.heap.size, 2, none⟩) (by simp only []; omega)).trans t_2⟩ : (fun W => W.cell? ⟨w.heap.size, 0, none⟩ = some (.string s) ∧ W.cell? ⟨w.heap.size, 1, none⟩ = some (.int .i64 (N : Int)) ∧ W.cell? ⟨w.heap.size, 2, none⟩ = some (.slice ub un uc)) wA)
    refine hK.out _ _ ?_ (fun hHeld => ?_)
    · exact hSA
    clear hK K
    try simp only [Act.put, List.setIfInBounds_toArray, List.set_cons_zero, List.set_cons_succ]
    refine wpAnyH_take (i := 3) (v := ?v3_9) rfl (by kernel_rfl) (by kernel_rfl) (by kernel_rfl) (fun _ _ _ h => h) (Or.inl ⟨by rfl, ?hy3_9⟩) (by assumption) ?rest3_9
    case hy3_9 => intro w hSw; (try dsimp only at hSw); go_simp; (try with_reducible rfl)
    try simp only [Act.put, List.getElem_toArray, List.getElem_cons_succ, List.getElem_cons_zero, List.setIfInBounds_toArray, List.set_cons_zero, List.set_cons_succ]
    refine wpAnyH_take (i := 4) (v := ?v4_10) rfl (by kernel_rfl) (by kernel_rfl) (by kernel_rfl) (fun _ _ _ h => h) (Or.inl ⟨by rfl, ?hy4_10⟩) (by assumption) ?rest4_10
    case hy4_10 => intro w hSw; (try dsimp only at hSw); go_simp; (try with_reducible rfl)
    try simp only [Act.put, List.getElem_toArray, List.getElem_cons_succ, List.getElem_cons_zero, List.setIfInBounds_toArray, List.set_cons_zero, List.set_cons_succ]
    refine wpAnyH_take (i := 5) (v := ?v5_11) rfl (by kernel_rfl) (by kernel_rfl) (by kernel_rfl) (fun _ _ _ h => h) (Or.inl ⟨by rfl, ?hy5_11⟩) (by assumption) ?rest5_11
    case hy5_11 => intro w hSw; (try dsimp only at hSw); go_simp; (try with_reducible rfl)
    try simp only [Act.put, List.getElem_toArray, List.getElem_cons_succ, List.getElem_cons_zero, List.setIfInBounds_toArray, List.set_cons_zero, List.set_cons_succ]
    refine wpAnyH_take (i := 6) (v := ?v6_12) rfl (by kernel_rfl) (by kernel_rfl) (by kernel_rfl) (fun _ _ _ h => h) (Or.inl ⟨by rfl, ?hy6_12⟩) (by assumption) ?rest6_12
    case hy6_12 => intro w hSw; (try dsimp only at hSw); go_simp; (try with_reducible rfl)
    try simp only [Act.put, List.getElem_toArray, List.getElem_cons_succ, List.getElem_cons_zero, List.setIfInBounds_toArray, List.set_cons_zero, List.set_cons_succ]
    refine wpAnyH_take (i := 7) (v := ?v7_13) rfl (by kernel_rfl) (by kernel_rfl) (by kernel_rfl) (fun _ _ _ h => h) (Or.inl ⟨by rfl, ?hy7_13⟩) (by assumption) ?rest7_13
    case hy7_13 => intro w hSw; (try dsimp only at hSw); go_simp; (try with_reducible rfl)
    try simp only [Act.put, List.getElem_toArray, List.getElem_cons_succ, List.getElem_cons_zero, List.setIfInBounds_toArray, List.set_cons_zero, List.set_cons_succ]
    refine wpAnyH_take (i := 9) (v := ?v9_14) rfl (by kernel_rfl) (by kernel_rfl) (by kernel_rfl) (fun _ _ _ h => h) (Or.inl ⟨by rfl, ?hy9_14⟩) (by assumption) ?rest9_14
    case hy9_14 => intro w hSw; (try dsimp only at hSw); go_simp; (try with_reducible rfl)
    try simp only [Act.put, List.getElem_toArray, List.getElem_cons_succ, List.getElem_cons_zero, List.setIfInBounds_toArray, List.set_cons_zero, List.set_cons_succ]
    refine wpAnyH_take (i := 10) (v := ?v10_15) rfl (by kernel_rfl) (by kernel_rfl) (by kernel_rfl) (fun _ _ _ h => h) (Or.inl ⟨by rfl, ?hy10_15⟩) (by assumption) ?rest10_15
    case hy10_15 => intro w hSw; (try dsimp only at hSw); go_simp; (try with_reducible rfl)
    try simp only [Act.put, List.getElem_toArray, List.getElem_cons_succ, List.getElem_cons_zero, List.setIfInBounds_toArray, List.set_cons_zero, List.set_cons_succ]
    refine wpAnyH_ready (rs := [8]) (by kernel_rfl) (by simp) ?_
    refine AllReadyH.cons rfl (fun K hK => ?_) AllReadyH.nil
    go_simp; (refine (HC2.out _ hbA).mono ?_); rintro e wB ⟨x, rfl, o1, zB⟩; obtain ⟨xb, xn, xc, rfl⟩ := oI_form1 o1; have sB := zB.size; have hbB := on hbA zB; have hSB := (⟨(zB.cell (p := ⟨w.heap.size, 0, none⟩) (by simp only []; omega)).trans hSA.1, (zB.cell (p := ⟨w.heap.size, 1, none⟩) (by simp only []; omega)).trans hSA.2.1, (zB.cell (p := ⟨w.heap.size, 2, none⟩) (by simp only []; omega)).trans hSA.2.2⟩ : (fun W => W.cell? ⟨w.heap.size, 0, none⟩ = some (.string s) ∧ W.cell? ⟨w.heap.size, 1, none⟩ = some (.int .i64 (N : Int)) ∧ W.cell? ⟨w.heap.size, 2, none⟩ = some (.slice ub un uc)) wB)
    refine hK.out _ _ ?_ (fun hHeld => ?_)
    · exact hSB
    clear hK K
    try simp only [Act.put, List.setIfInBounds_toArray, List.set_cons_zero, List.set_cons_succ]
    refine wpAnyH_ready (rs := [11]) (by kernel_rfl) (by simp) ?_
    refine AllReadyH.cons rfl (fun K hK => ?_) AllReadyH.nil
    go_simp; (refine (covers_any xb xn xc l N _ (rI_ints (o1.rd reads_I)) (by omega)).mono ?_); rintro e wC ⟨rfl, rfl⟩
    refine hK.out _ _ ?_ (fun hHeld => ?_)
    · exact hSB
    clear hK K
    try simp only [Act.put, List.setIfInBounds_toArray, List.set_cons_zero, List.set_cons_succ]
    refine wpAnyH_take (i := 12) (v := ?v12_16) rfl (by kernel_rfl) (by kernel_rfl) (by kernel_rfl) (fun _ _ _ h => h) (Or.inl ⟨by rfl, ?hy12_16⟩) (by assumption) ?rest12_16
    case hy12_16 => intro w hSw; (try dsimp only at hSw); go_simp; (try with_reducible rfl)
    try simp only [Act.put, List.getElem_toArray, List.getElem_cons_succ, List.getElem_cons_zero, List.setIfInBounds_toArray, List.set_cons_zero, List.set_cons_succ]
    refine wpAnyH_take (i := 13) (v := ?v13_17) rfl (by kernel_rfl) (by kernel_rfl) (by kernel_rfl) (fun _ _ _ h => h) (Or.inl ⟨by rfl, ?hy13_17⟩) (by assumption) ?rest13_17
    case hy13_17 => intro w hSw; (try dsimp only at hSw); go_simp; (try with_reducible rfl)
    try simp only [Act.put, List.getElem_toArray, List.getElem_cons_succ, List.getElem_cons_zero, List.setIfInBounds_toArray, List.set_cons_zero, List.set_cons_succ]
    refine wpAnyH_done (by kernel_rfl) ?_ _
    refine NoPanic.normal ?_
    go_wp2_with fail
    go_ret
    exact ⟨ret_bool (by rw [HK.out, ← HY.out]; rfl), hbB⟩

end Go.Proofs.Ytbkoddikfpkocaa

/- The walk of the law IsKey. Written by a program. -/
namespace Go.Proofs.Ytbkoddikfpkocaa
open Go.RowKit
set_option linter.unusedVariables false
set_option linter.unusedSimpArgs false
set_option synthInstance.maxSize 2000
set_option synthInstance.maxHeartbeats 400000

set_option maxHeartbeats 4000000 in
set_option maxRecDepth 100000 in
theorem walk_FnExactIsKey (v0 : Value) (v1 : Value) (v2 : Value) (w : World) (h0 : kDl_in w v0) (h1 : kT_in w v1) (h2 : kI_in w v2) :
    Calls Try.prog 7 #[v0, v1, v2] w fun e w' => e = .returned (.bool true) ∧ Below w.heap.size w w' := by
  obtain ⟨v0, x0, rfl, h0⟩ := h0
  obtain ⟨c1, x1, rfl, h1⟩ := h1
  obtain ⟨bu1, nu1, cu1, rfl⟩ := rT_form h1
  obtain ⟨a2, n2, p2, x2, rfl, hn2, h2⟩ := h2
  have hb0 : Below w.heap.size w w := Below.refl _ _
  rcases Nat.lt_or_ge 1048576 n2 with g2 | g2
  · have hm2 := hn2.2
    go_enter Try.func7, Try.ntmps7
    go_wp2
    go_ret
    exact ⟨rfl, (Below.refl _ _).alloc (Nat.le_refl _) _⟩
  have hbk2 : bulk_I x2 ≤ 1048576 := by have h9 := hn2.1; unfold bulk_I; omega
  go_enter Try.func7, Try.ntmps7
  obtain ⟨w1, hw1⟩ : ∃ W, W = w.alloc (.cells #[.string x1.1, .int .i64 x1.2.1, .slice bu1 nu1 cu1] 67) := ⟨_, rfl⟩
  have z1 : Below w.heap.size w w1 := by rw [hw1]; exact (Below.refl _ _).alloc (Nat.le_refl _) _
  have s1 : w1.heap.size = w.heap.size + 1 := by rw [hw1]; simp
  have hb1 := on hb0 z1
  have bp1_0 : w1.cell? ⟨w.heap.size, 0, none⟩ = some (.string x1.1) := by rw [hw1]; exact box_cell (Below.refl _ _) rfl
  have bp1_1 : w1.cell? ⟨w.heap.size, 1, none⟩ = some (.int .i64 x1.2.1) := by rw [hw1]; exact box_cell (Below.refl _ _) rfl
  have bp1_2 : w1.cell? ⟨w.heap.size, 2, none⟩ = some (.slice bu1 nu1 cu1) := by rw [hw1]; exact box_cell (Below.refl _ _) rfl
  go_wp2_with fail
  rw [← hw1]
  clear hw1
  refine (sz_Dl _ x0 (1048576) _ (rDl.mono h0 hb1) (by omega) (by omega)).mono ?_
  rintro e w2 ⟨rfl, z2⟩
  have s2 := z2.size
  have hb2 := on hb1 z2
  replace bp1_0 := (z2.cell (p := ⟨w.heap.size, 0, none⟩) (by simp only []; omega)).trans bp1_0
  replace bp1_1 := (z2.cell (p := ⟨w.heap.size, 1, none⟩) (by simp only []; omega)).trans bp1_1
  replace bp1_2 := (z2.cell (p := ⟨w.heap.size, 2, none⟩) (by simp only []; omega)).trans bp1_2
  obtain ⟨q0, hq0⟩ : ∃ q, q = szR (1048576) (bulk_Dl x0) := ⟨_, rfl⟩
  rw [← hq0]
  have hc0 := szR_cases (1048576) (bulk_Dl x0)
  rw [← hq0] at hc0
  clear hq0
  rcases hc0 with ⟨rfl, _⟩ | ⟨hq0, hbk0⟩
  · go_wp2_with fail
    go_ret
    exact ⟨rfl, hb2⟩
  have hlo0 : 0 ≤ q0 ∧ q0 ≤ 1048576 := by omega
  have hbl0 : bulk_Dl x0 ≤ 1048576 := by omega
  obtain ⟨hlo0, hlp0⟩ := hlo0
  have HQ0 := Lib.hid hq0
  clear hq0 hbk0
  go_wp2_with fail
  refine (sz_T _ x1 (q0) _ (rT.mono h1 hb2) (by omega) (by omega)).mono ?_
  rintro e w3 ⟨rfl, z3⟩
  have s3 := z3.size
  have hb3 := on hb2 z3
  replace bp1_0 := (z3.cell (p := ⟨w.heap.size, 0, none⟩) (by simp only []; omega)).trans bp1_0
  replace bp1_1 := (z3.cell (p := ⟨w.heap.size, 1, none⟩) (by simp only []; omega)).trans bp1_1
  replace bp1_2 := (z3.cell (p := ⟨w.heap.size, 2, none⟩) (by simp only []; omega)).trans bp1_2
  obtain ⟨q1, hq1⟩ : ∃ q, q = szR (q0) (bulk_T x1) := ⟨_, rfl⟩
  rw [← hq1]
  have hc1 := szR_cases (q0) (bulk_T x1)
  rw [← hq1] at hc1
  clear hq1
  rcases hc1 with ⟨rfl, _⟩ | ⟨hq1, hbk1⟩
  · go_wp2_with fail
    go_ret
    exact ⟨rfl, hb3⟩
  have hlo1 : 0 ≤ q1 ∧ q1 ≤ 1048576 := by omega
  have hbl1 : bulk_T x1 ≤ 1048576 := by omega
  obtain ⟨hlo1, hlp1⟩ := hlo1
  have HQ1 := Lib.hid hq1
  clear hq1 hbk1
  go_wp2_with fail
  go_region_held3 (fun W => W.cell? ⟨w.heap.size, 0, none⟩ = some (.string x1.1) ∧ W.cell? ⟨w.heap.size, 1, none⟩ = some (.int .i64 x1.2.1) ∧ W.cell? ⟨w.heap.size, 2, none⟩ = some (.slice bu1 nu1 cu1)) (first | exact ⟨bp1_0, bp1_1, bp1_2⟩ | assumption) (first | (go_at_call 52; refine (to_Dl _ x0 _ (rDl.mono h0 hb3.drew) (by omega)).mono ?_; rintro e w4 ⟨ct0, rfl, t0, z4⟩; replace z4 : Below w3.heap.size w3 w4 := on (Below.refl _ _).drew z4; have sz4 := z4.size; have hS4 := (⟨(z4.cell (p := ⟨w.heap.size, 0, none⟩) (by simp only []; omega)).trans bp1_0, (z4.cell (p := ⟨w.heap.size, 1, none⟩) (by simp only []; omega)).trans bp1_1, (z4.cell (p := ⟨w.heap.size, 2, none⟩) (by simp only []; omega)).trans bp1_2⟩ : (fun W => W.cell? ⟨w.heap.size, 0, none⟩ = some (.string x1.1) ∧ W.cell? ⟨w.heap.size, 1, none⟩ = some (.int .i64 x1.2.1) ∧ W.cell? ⟨w.heap.size, 2, none⟩ = some (.slice bu1 nu1 cu1)) w4); have hx4 := on hb3 z4) | (go_at_call 62; with_reducible (show Calls Try.prog 62 #[.agg #[.string x1.1, .int .i64 x1.2.1, .slice bu1 nu1 cu1]] _ _); refine (to_T _ x1 _ (rT.mono h1 hx4) (by omega)).mono ?_; rintro e w5 ⟨ct1, rfl, t1, z5⟩; have sz5 := z5.size; obtain ⟨but1, nut1, cut1, rfl⟩ := oT_form t1; replace t0 := t0.below z5 (by omega); have hS5 := (⟨(z5.cell (p := ⟨w.heap.size, 0, none⟩) (by simp only []; omega)).trans hS4.1, (z5.cell (p := ⟨w.heap.size, 1, none⟩) (by simp only []; omega)).trans hS4.2.1, (z5.cell (p := ⟨w.heap.size, 2, none⟩) (by simp only []; omega)).trans hS4.2.2⟩ : (fun W => W.cell? ⟨w.heap.size, 0, none⟩ = some (.string x1.1) ∧ W.cell? ⟨w.heap.size, 1, none⟩ = some (.int .i64 x1.2.1) ∧ W.cell? ⟨w.heap.size, 2, none⟩ = some (.slice bu1 nu1 cu1)) w5); have hx5 := on hx4 z5) | (go_at_call 53; refine (to_I _ x2 _ (rI.mono h2 hx5) (by omega)).mono ?_; rintro e w6 ⟨ct2, rfl, t2, z6⟩; have sz6 := z6.size; replace t0 := t0.below z6 (by omega); replace t1 := t1.below z6 (by omega); have hS6 := (⟨(z6.cell (p := ⟨w.heap.size, 0, none⟩) (by simp only []; omega)).trans hS5.1, (z6.cell (p := ⟨w.heap.size, 1, none⟩) (by simp only []; omega)).trans hS5.2.1, (z6.cell (p := ⟨w.heap.size, 2, none⟩) (by simp only []; omega)).trans hS5.2.2⟩ : (fun W => W.cell? ⟨w.heap.size, 0, none⟩ = some (.string x1.1) ∧ W.cell? ⟨w.heap.size, 1, none⟩ = some (.int .i64 x1.2.1) ∧ W.cell? ⟨w.heap.size, 2, none⟩ = some (.slice bu1 nu1 cu1)) w6); have hx6 := on hx5 z6) | (go_at_call 69; refine (isKey_spec _ _ _ x0 x1 x2 _ (t0.rd reads_Dl) (t1.rd reads_T) (t2.rd reads_I)).mono ?_; rintro e w7 ⟨rfl, z7⟩; have sz7 := z7.size; replace t0 := t0.below z7 (by omega); replace t1 := t1.below z7 (by omega); replace t2 := t2.below z7 (by omega); have hS7 := (⟨(z7.cell (p := ⟨w.heap.size, 0, none⟩) (by simp only []; omega)).trans hS6.1, (z7.cell (p := ⟨w.heap.size, 1, none⟩) (by simp only []; omega)).trans hS6.2.1, (z7.cell (p := ⟨w.heap.size, 2, none⟩) (by simp only []; omega)).trans hS6.2.2⟩ : (fun W => W.cell? ⟨w.heap.size, 0, none⟩ = some (.string x1.1) ∧ W.cell? ⟨w.heap.size, 1, none⟩ = some (.int .i64 x1.2.1) ∧ W.cell? ⟨w.heap.size, 2, none⟩ = some (.slice bu1 nu1 cu1)) w7); have hx7 := on hx6 z7))
  replace z4 : Below w3.heap.size w3 w4 := z4
  replace z5 : Below w4.heap.size w4 w5 := z5
  replace z6 : Below w5.heap.size w5 w6 := z6
  replace z7 : Below w6.heap.size w6 w7 := z7
  clear hS4 hx4 hS5 hx5 hS6 hx6 hS7 hx7 t0 t1 t2
  have t4 := z4.size
  have hb4 := on hb3 z4
  replace bp1_0 := (z4.cell (p := ⟨w.heap.size, 0, none⟩) (by simp only []; omega)).trans bp1_0
  replace bp1_1 := (z4.cell (p := ⟨w.heap.size, 1, none⟩) (by simp only []; omega)).trans bp1_1
  replace bp1_2 := (z4.cell (p := ⟨w.heap.size, 2, none⟩) (by simp only []; omega)).trans bp1_2
  have t5 := z5.size
  have hb5 := on hb4 z5
  replace bp1_0 := (z5.cell (p := ⟨w.heap.size, 0, none⟩) (by simp only []; omega)).trans bp1_0
  replace bp1_1 := (z5.cell (p := ⟨w.heap.size, 1, none⟩) (by simp only []; omega)).trans bp1_1
  replace bp1_2 := (z5.cell (p := ⟨w.heap.size, 2, none⟩) (by simp only []; omega)).trans bp1_2
  have t6 := z6.size
  have hb6 := on hb5 z6
  replace bp1_0 := (z6.cell (p := ⟨w.heap.size, 0, none⟩) (by simp only []; omega)).trans bp1_0
  replace bp1_1 := (z6.cell (p := ⟨w.heap.size, 1, none⟩) (by simp only []; omega)).trans bp1_1
  replace bp1_2 := (z6.cell (p := ⟨w.heap.size, 2, none⟩) (by simp only []; omega)).trans bp1_2
  have t7 := z7.size
  have hb7 := on hb6 z7
  replace bp1_0 := (z7.cell (p := ⟨w.heap.size, 0, none⟩) (by simp only []; omega)).trans bp1_0
  replace bp1_1 := (z7.cell (p := ⟨w.heap.size, 1, none⟩) (by simp only []; omega)).trans bp1_1
  replace bp1_2 := (z7.cell (p := ⟨w.heap.size, 2, none⟩) (by simp only []; omega)).trans bp1_2
  go_wp2_with fail
  refine (to_Dl _ _ _ (rDl.mono h0 hb7) (by omega)).mono ?_
  rintro e w8 ⟨cy0, rfl, y0, z8⟩
  have s8 := z8.size
  have hb8 := on hb7 z8
  replace bp1_0 := (z8.cell (p := ⟨w.heap.size, 0, none⟩) (by simp only []; omega)).trans bp1_0
  replace bp1_1 := (z8.cell (p := ⟨w.heap.size, 1, none⟩) (by simp only []; omega)).trans bp1_1
  replace bp1_2 := (z8.cell (p := ⟨w.heap.size, 2, none⟩) (by simp only []; omega)).trans bp1_2
  go_wp2_with fail
  refine (to_T _ _ _ (rT.mono h1 hb8) (by omega)).mono ?_
  rintro e w9 ⟨cy1, rfl, y1, z9⟩
  have s9 := z9.size
  have hb9 := on hb8 z9
  replace y0 := y0.below z9 (by omega)
  replace bp1_0 := (z9.cell (p := ⟨w.heap.size, 0, none⟩) (by simp only []; omega)).trans bp1_0
  replace bp1_1 := (z9.cell (p := ⟨w.heap.size, 1, none⟩) (by simp only []; omega)).trans bp1_1
  replace bp1_2 := (z9.cell (p := ⟨w.heap.size, 2, none⟩) (by simp only []; omega)).trans bp1_2
  obtain ⟨buy1, nuy1, cuy1, rfl⟩ := oT_form y1
  obtain ⟨w10, hw10⟩ : ∃ W, W = w9.alloc (.cells #[.string x1.1, .int .i64 x1.2.1, .slice buy1 nuy1 cuy1] 34) := ⟨_, rfl⟩
  have z10 : Below w9.heap.size w9 w10 := by rw [hw10]; exact (Below.refl _ _).alloc (Nat.le_refl _) _
  have s10 : w10.heap.size = w9.heap.size + 1 := by rw [hw10]; simp
  have hb10 := on hb9 z10
  replace y0 := y0.below z10 (by omega)
  replace y1 := y1.below z10 (by omega)
  replace bp1_0 := (z10.cell (p := ⟨w.heap.size, 0, none⟩) (by simp only []; omega)).trans bp1_0
  replace bp1_1 := (z10.cell (p := ⟨w.heap.size, 1, none⟩) (by simp only []; omega)).trans bp1_1
  replace bp1_2 := (z10.cell (p := ⟨w.heap.size, 2, none⟩) (by simp only []; omega)).trans bp1_2
  have by1_0 : w10.cell? ⟨w9.heap.size, 0, none⟩ = some (.string x1.1) := by rw [hw10]; exact box_cell (Below.refl _ _) rfl
  have by1_1 : w10.cell? ⟨w9.heap.size, 1, none⟩ = some (.int .i64 x1.2.1) := by rw [hw10]; exact box_cell (Below.refl _ _) rfl
  have by1_2 : w10.cell? ⟨w9.heap.size, 2, none⟩ = some (.slice buy1 nuy1 cuy1) := by rw [hw10]; exact box_cell (Below.refl _ _) rfl
  have raw_bp1_0 := bp1_0
  rw [hw10] at raw_bp1_0
  have raw_bp1_1 := bp1_1
  rw [hw10] at raw_bp1_1
  have raw_bp1_2 := bp1_2
  rw [hw10] at raw_bp1_2
  have raw_by1_0 := by1_0
  rw [hw10] at raw_by1_0
  have raw_by1_1 := by1_1
  rw [hw10] at raw_by1_1
  have raw_by1_2 := by1_2
  rw [hw10] at raw_by1_2
  go_wp2_with fail
  rw [← hw10]
  clear hw10
  clear raw_bp1_0 raw_bp1_1 raw_bp1_2 raw_by1_0 raw_by1_1 raw_by1_2
  refine (to_I _ _ _ (rI.mono h2 hb10) (by omega)).mono ?_
  rintro e w11 ⟨cy2, rfl, y2, z11⟩
  have s11 := z11.size
  have hb11 := on hb10 z11
  replace y0 := y0.below z11 (by omega)
  replace y1 := y1.below z11 (by omega)
  replace bp1_0 := (z11.cell (p := ⟨w.heap.size, 0, none⟩) (by simp only []; omega)).trans bp1_0
  replace bp1_1 := (z11.cell (p := ⟨w.heap.size, 1, none⟩) (by simp only []; omega)).trans bp1_1
  replace bp1_2 := (z11.cell (p := ⟨w.heap.size, 2, none⟩) (by simp only []; omega)).trans bp1_2
  replace by1_0 := (z11.cell (p := ⟨w9.heap.size, 0, none⟩) (by simp only []; omega)).trans by1_0
  replace by1_1 := (z11.cell (p := ⟨w9.heap.size, 1, none⟩) (by simp only []; omega)).trans by1_1
  replace by1_2 := (z11.cell (p := ⟨w9.heap.size, 2, none⟩) (by simp only []; omega)).trans by1_2
  go_wp2_with fail
  refine (isKey_impl _ _ _ x0 x1 x2 _ (y0.rd reads_Dl) (y1.rd reads_T) (y2.rd reads_I) (by omega)).mono ?_
  rintro e w12 ⟨rfl, z12⟩
  have s12 := z12.size
  have hb12 := on hb11 z12
  replace y0 := y0.below z12 (by omega)
  replace y1 := y1.below z12 (by omega)
  replace y2 := y2.below z12 (by omega)
  replace bp1_0 := (z12.cell (p := ⟨w.heap.size, 0, none⟩) (by simp only []; omega)).trans bp1_0
  replace bp1_1 := (z12.cell (p := ⟨w.heap.size, 1, none⟩) (by simp only []; omega)).trans bp1_1
  replace bp1_2 := (z12.cell (p := ⟨w.heap.size, 2, none⟩) (by simp only []; omega)).trans bp1_2
  replace by1_0 := (z12.cell (p := ⟨w9.heap.size, 0, none⟩) (by simp only []; omega)).trans by1_0
  replace by1_1 := (z12.cell (p := ⟨w9.heap.size, 1, none⟩) (by simp only []; omega)).trans by1_1
  replace by1_2 := (z12.cell (p := ⟨w9.heap.size, 2, none⟩) (by simp only []; omega)).trans by1_2
  go_wp2_with fail
  refine (to_Dl _ _ _ (rDl.mono h0 hb12) (by omega)).mono ?_
  rintro e w13 ⟨cu0, rfl, u0, z13⟩
  have s13 := z13.size
  have hb13 := on hb12 z13
  replace y0 := y0.below z13 (by omega)
  replace y1 := y1.below z13 (by omega)
  replace y2 := y2.below z13 (by omega)
  replace bp1_0 := (z13.cell (p := ⟨w.heap.size, 0, none⟩) (by simp only []; omega)).trans bp1_0
  replace bp1_1 := (z13.cell (p := ⟨w.heap.size, 1, none⟩) (by simp only []; omega)).trans bp1_1
  replace bp1_2 := (z13.cell (p := ⟨w.heap.size, 2, none⟩) (by simp only []; omega)).trans bp1_2
  replace by1_0 := (z13.cell (p := ⟨w9.heap.size, 0, none⟩) (by simp only []; omega)).trans by1_0
  replace by1_1 := (z13.cell (p := ⟨w9.heap.size, 1, none⟩) (by simp only []; omega)).trans by1_1
  replace by1_2 := (z13.cell (p := ⟨w9.heap.size, 2, none⟩) (by simp only []; omega)).trans by1_2
  go_wp2_with fail
  refine (eq_Dl _ _ _ _ _ (y0.rd reads_Dl) (u0.rd reads_Dl)).mono ?_
  rintro e w14 ⟨rfl, z14⟩
  have s14 := z14.size
  have hb14 := on hb13 z14
  replace y0 := y0.below z14 (by omega)
  replace y1 := y1.below z14 (by omega)
  replace y2 := y2.below z14 (by omega)
  replace u0 := u0.below z14 (by omega)
  replace bp1_0 := (z14.cell (p := ⟨w.heap.size, 0, none⟩) (by simp only []; omega)).trans bp1_0
  replace bp1_1 := (z14.cell (p := ⟨w.heap.size, 1, none⟩) (by simp only []; omega)).trans bp1_1
  replace bp1_2 := (z14.cell (p := ⟨w.heap.size, 2, none⟩) (by simp only []; omega)).trans bp1_2
  replace by1_0 := (z14.cell (p := ⟨w9.heap.size, 0, none⟩) (by simp only []; omega)).trans by1_0
  replace by1_1 := (z14.cell (p := ⟨w9.heap.size, 1, none⟩) (by simp only []; omega)).trans by1_1
  replace by1_2 := (z14.cell (p := ⟨w9.heap.size, 2, none⟩) (by simp only []; omega)).trans by1_2
  clear u0
  go_wp2_with fail
  go_region_held3 (fun W => W.cell? ⟨w9.heap.size, 0, none⟩ = some (.string x1.1) ∧ W.cell? ⟨w9.heap.size, 1, none⟩ = some (.int .i64 x1.2.1) ∧ W.cell? ⟨w9.heap.size, 2, none⟩ = some (.slice buy1 nuy1 cuy1) ∧ W.cell? ⟨w.heap.size, 0, none⟩ = some (.string x1.1) ∧ W.cell? ⟨w.heap.size, 1, none⟩ = some (.int .i64 x1.2.1) ∧ W.cell? ⟨w.heap.size, 2, none⟩ = some (.slice bu1 nu1 cu1)) (first | exact ⟨by1_0, by1_1, by1_2, bp1_0, bp1_1, bp1_2⟩ | assumption) (first | (go_at_call 62; refine (to_T _ x1 _ (rT.mono h1 hb14.drew) (by omega)).mono ?_; rintro e w15 ⟨du1, rfl, u1, z15⟩; replace z15 : Below w14.heap.size w14 w15 := (Below.refl _ _).drew.trans z15; have hS1 := (⟨(z15.cell (p := ⟨w9.heap.size, 0, none⟩) (by simp only []; omega)).trans by1_0, (z15.cell (p := ⟨w9.heap.size, 1, none⟩) (by simp only []; omega)).trans by1_1, (z15.cell (p := ⟨w9.heap.size, 2, none⟩) (by simp only []; omega)).trans by1_2, (z15.cell (p := ⟨w.heap.size, 0, none⟩) (by simp only []; omega)).trans bp1_0, (z15.cell (p := ⟨w.heap.size, 1, none⟩) (by simp only []; omega)).trans bp1_1, (z15.cell (p := ⟨w.heap.size, 2, none⟩) (by simp only []; omega)).trans bp1_2⟩ : (fun W => W.cell? ⟨w9.heap.size, 0, none⟩ = some (.string x1.1) ∧ W.cell? ⟨w9.heap.size, 1, none⟩ = some (.int .i64 x1.2.1) ∧ W.cell? ⟨w9.heap.size, 2, none⟩ = some (.slice buy1 nuy1 cuy1) ∧ W.cell? ⟨w.heap.size, 0, none⟩ = some (.string x1.1) ∧ W.cell? ⟨w.heap.size, 1, none⟩ = some (.int .i64 x1.2.1) ∧ W.cell? ⟨w.heap.size, 2, none⟩ = some (.slice bu1 nu1 cu1)) w15); obtain ⟨buu1, nuu1, cuu1, rfl⟩ := oT_form u1; have y1' := y1.below z15 (by omega)) | (go_at_call 65; refine (eq_T _ _ x1 x1 _ (y1'.rd reads_T) (u1.rd reads_T)).mono ?_; rintro e w16 ⟨rfl, z16⟩; have s15 := z15.size; have hT1 := (⟨(z16.cell (p := ⟨w9.heap.size, 0, none⟩) (by simp only []; omega)).trans hS1.1, (z16.cell (p := ⟨w9.heap.size, 1, none⟩) (by simp only []; omega)).trans hS1.2.1, (z16.cell (p := ⟨w9.heap.size, 2, none⟩) (by simp only []; omega)).trans hS1.2.2.1, (z16.cell (p := ⟨w.heap.size, 0, none⟩) (by simp only []; omega)).trans hS1.2.2.2.1, (z16.cell (p := ⟨w.heap.size, 1, none⟩) (by simp only []; omega)).trans hS1.2.2.2.2.1, (z16.cell (p := ⟨w.heap.size, 2, none⟩) (by simp only []; omega)).trans hS1.2.2.2.2.2⟩ : (fun W => W.cell? ⟨w9.heap.size, 0, none⟩ = some (.string x1.1) ∧ W.cell? ⟨w9.heap.size, 1, none⟩ = some (.int .i64 x1.2.1) ∧ W.cell? ⟨w9.heap.size, 2, none⟩ = some (.slice buy1 nuy1 cuy1) ∧ W.cell? ⟨w.heap.size, 0, none⟩ = some (.string x1.1) ∧ W.cell? ⟨w.heap.size, 1, none⟩ = some (.int .i64 x1.2.1) ∧ W.cell? ⟨w.heap.size, 2, none⟩ = some (.slice bu1 nu1 cu1)) w16)))
  replace z15 : Below w14.heap.size w14 w15 := z15
  clear u1 y1' hS1 hT1
  have t15 := z15.size
  have hb15 := on hb14 z15
  replace y0 := y0.below z15 (by omega)
  replace y1 := y1.below z15 (by omega)
  replace y2 := y2.below z15 (by omega)
  replace bp1_0 := (z15.cell (p := ⟨w.heap.size, 0, none⟩) (by simp only []; omega)).trans bp1_0
  replace bp1_1 := (z15.cell (p := ⟨w.heap.size, 1, none⟩) (by simp only []; omega)).trans bp1_1
  replace bp1_2 := (z15.cell (p := ⟨w.heap.size, 2, none⟩) (by simp only []; omega)).trans bp1_2
  replace by1_0 := (z15.cell (p := ⟨w9.heap.size, 0, none⟩) (by simp only []; omega)).trans by1_0
  replace by1_1 := (z15.cell (p := ⟨w9.heap.size, 1, none⟩) (by simp only []; omega)).trans by1_1
  replace by1_2 := (z15.cell (p := ⟨w9.heap.size, 2, none⟩) (by simp only []; omega)).trans by1_2
  have t16 := z16.size
  have hb16 := on hb15 z16
  replace y0 := y0.below z16 (by omega)
  replace y1 := y1.below z16 (by omega)
  replace y2 := y2.below z16 (by omega)
  replace bp1_0 := (z16.cell (p := ⟨w.heap.size, 0, none⟩) (by simp only []; omega)).trans bp1_0
  replace bp1_1 := (z16.cell (p := ⟨w.heap.size, 1, none⟩) (by simp only []; omega)).trans bp1_1
  replace bp1_2 := (z16.cell (p := ⟨w.heap.size, 2, none⟩) (by simp only []; omega)).trans bp1_2
  replace by1_0 := (z16.cell (p := ⟨w9.heap.size, 0, none⟩) (by simp only []; omega)).trans by1_0
  replace by1_1 := (z16.cell (p := ⟨w9.heap.size, 1, none⟩) (by simp only []; omega)).trans by1_1
  replace by1_2 := (z16.cell (p := ⟨w9.heap.size, 2, none⟩) (by simp only []; omega)).trans by1_2
  go_wp2_with fail
  refine (to_I _ _ _ (rI.mono h2 hb16) (by omega)).mono ?_
  rintro e w17 ⟨cu2, rfl, u2, z17⟩
  have s17 := z17.size
  have hb17 := on hb16 z17
  replace y0 := y0.below z17 (by omega)
  replace y1 := y1.below z17 (by omega)
  replace y2 := y2.below z17 (by omega)
  replace bp1_0 := (z17.cell (p := ⟨w.heap.size, 0, none⟩) (by simp only []; omega)).trans bp1_0
  replace bp1_1 := (z17.cell (p := ⟨w.heap.size, 1, none⟩) (by simp only []; omega)).trans bp1_1
  replace bp1_2 := (z17.cell (p := ⟨w.heap.size, 2, none⟩) (by simp only []; omega)).trans bp1_2
  replace by1_0 := (z17.cell (p := ⟨w9.heap.size, 0, none⟩) (by simp only []; omega)).trans by1_0
  replace by1_1 := (z17.cell (p := ⟨w9.heap.size, 1, none⟩) (by simp only []; omega)).trans by1_1
  replace by1_2 := (z17.cell (p := ⟨w9.heap.size, 2, none⟩) (by simp only []; omega)).trans by1_2
  go_wp2_with fail
  refine (eq_I _ _ _ _ _ (y2.rd reads_I) (u2.rd reads_I)).mono ?_
  rintro e w18 ⟨rfl, z18⟩
  replace z18 : Below w17.heap.size w17 w18 := z18.below _
  have s18 := z18.size
  have hb18 := on hb17 z18
  replace y0 := y0.below z18 (by omega)
  replace y1 := y1.below z18 (by omega)
  replace y2 := y2.below z18 (by omega)
  replace u2 := u2.below z18 (by omega)
  replace bp1_0 := (z18.cell (p := ⟨w.heap.size, 0, none⟩) (by simp only []; omega)).trans bp1_0
  replace bp1_1 := (z18.cell (p := ⟨w.heap.size, 1, none⟩) (by simp only []; omega)).trans bp1_1
  replace bp1_2 := (z18.cell (p := ⟨w.heap.size, 2, none⟩) (by simp only []; omega)).trans bp1_2
  replace by1_0 := (z18.cell (p := ⟨w9.heap.size, 0, none⟩) (by simp only []; omega)).trans by1_0
  replace by1_1 := (z18.cell (p := ⟨w9.heap.size, 1, none⟩) (by simp only []; omega)).trans by1_1
  replace by1_2 := (z18.cell (p := ⟨w9.heap.size, 2, none⟩) (by simp only []; omega)).trans by1_2
  clear u2
  go_wp2_with fail
  go_ret
  exact ⟨rfl, hb18⟩

end Go.Proofs.Ytbkoddikfpkocaa
