/- Texts joined for one claim: Draw15. -/
import Derived.Test.YtpgfkjcekhifiaaDoorQd301b4ccd3
import Derived.Test.YtpgfkjcekhifiaaDoorQa6f767527b
import Derived.Test.YtpgfkjcekhifiaaDoorQ37916211e5
import Derived.Deep.RegionHeld3

/- Contracts: the reference's draws (15): a query and two masks; an atom and variables. -/
namespace Go.Proofs.YtpgfkjcekhifiaaDoor
open Go.RowKit
set_option linter.unusedVariables false
set_option linter.unusedSimpArgs false
set_option synthInstance.maxSize 2000
set_option synthInstance.maxHeartbeats 400000

set_option maxRecDepth 100000 in
set_option maxHeartbeats 4000000 in
theorem drawShared_any (w : World) (ba : Option Addr) (bn bc : Nat) (hn : bn ≤ 2000000) (h : Bytes w w.heap.size ba bn) :
    Calls Tryd.prog 11 #[.slice ba bn bc] w fun e w' => ∃ (c0 : Int) (b : Option Addr) (n c : Nat) (x : DQ) (k l : Int), e = .returned (.tuple #[.agg #[.int .i64 c0, .slice b n c], .int .i64 k, .int .i64 l]) ∧ Own oQ w.heap.size w'.heap.size w' [.int .i64 c0, .slice b n c] x ∧ (I64 k ∧ I64 l) ∧ Below w.heap.size w w' := by
  have hb0 : Below w.heap.size w w := Below.refl _ _
  go_enter Tryd.func11, Tryd.ntmps11
  obtain ⟨w1, hw1⟩ : ∃ W, W = w.alloc (.cells #[.int .i64 0, .slice none 0 0] 24) := ⟨_, rfl⟩
  have z1 : Below w.heap.size w w1 := by rw [hw1]; exact (Below.refl _ _).alloc (Nat.le_refl _) _
  have s1 : w1.heap.size = w.heap.size + 1 := by rw [hw1]; simp
  have hb1 := on hb0 z1
  have R_0 : w1.cell? ⟨w.heap.size, 0, none⟩ = some (.int .i64 0) := by rw [hw1]; exact box_cell (Below.refl _ _) rfl
  have R_1 : w1.cell? ⟨w.heap.size, 1, none⟩ = some (.slice none 0 0) := by rw [hw1]; exact box_cell (Below.refl _ _) rfl
  have R_f0 : w1.frozen? ⟨w.heap.size, 0, none⟩ = false := by rw [hw1]; exact box_frozen (Below.refl _ _)
  have R_f1 : w1.frozen? ⟨w.heap.size, 1, none⟩ = false := by rw [hw1]; exact box_frozen (Below.refl _ _)
  have raw1_R_0 := R_0
  have raw1_R_1 := R_1
  have raw1_R_f0 := R_f0
  have raw1_R_f1 := R_f1
  rw [hw1] at raw1_R_0 raw1_R_1 raw1_R_f0 raw1_R_f1
  have HBY := Lib.hid (h.at hb1)
  clear h
  go_wp2_with fail
  rw [← hw1]
  clear hw1
  clear raw1_R_0 raw1_R_1 raw1_R_f0 raw1_R_f1
  go_wp2_with fail
  refine (l1New_any _ ba bn bc hn HBY.out).mono ?_
  rintro e w2 ⟨cb, rfl, HC, z2, hcb1, hcb2⟩
  have s3 := z2.size
  have hb3 := on hb1 z2
  replace R_0 := (z2.cell (p := ⟨w.heap.size, 0, none⟩) (by simp only []; omega)).trans R_0
  replace R_1 := (z2.cell (p := ⟨w.heap.size, 1, none⟩) (by simp only []; omega)).trans R_1
  replace R_f0 := (z2.frozen (p := ⟨w.heap.size, 0, none⟩) (by simp only []; omega)).trans R_f0
  replace R_f1 := (z2.frozen (p := ⟨w.heap.size, 1, none⟩) (by simp only []; omega)).trans R_f1
  clear HBY
  go_wp2_with fail
  obtain ⟨lo4, hlo4⟩ : ∃ q, q = w2.heap.size := ⟨_, rfl⟩
  have HC_o := HC
  clear HC
  refine (l7Any_any _ cb ba bn bc HC_o (by omega)).mono ?_
  rintro e w4 ⟨c0, b, n, c, x, rfl, oq, hx15, HC, z4⟩
  clear HC_o
  have s5 := z4.size
  have hb5 := hb3.trans ((z4.below (by omega)).mono (by omega))
  replace R_0 := (z4.cell (p := ⟨w.heap.size, 0, none⟩) (by simp only []; omega) (by simp only []; omega)).trans R_0
  replace R_1 := (z4.cell (p := ⟨w.heap.size, 1, none⟩) (by simp only []; omega) (by simp only []; omega)).trans R_1
  replace R_f0 := (World.frozen?_of_block (a := ⟨w.heap.size, 0, none⟩) (z4.block _ (by simp only []; omega) (by simp only []; omega))).trans R_f0
  replace R_f1 := (World.frozen?_of_block (a := ⟨w.heap.size, 1, none⟩) (z4.block _ (by simp only []; omega) (by simp only []; omega))).trans R_f1
  rw [← hlo4] at oq
  obtain ⟨hi5, hhi5⟩ : ∃ q, q = w4.heap.size := ⟨_, rfl⟩
  rw [← hhi5] at oq
  have hlh : w.heap.size + 1 ≤ lo4 ∧ cb + 1 ≤ lo4 := by omega
  have hlh2 : lo4 ≤ hi5 := by omega
  clear hx15
  obtain ⟨w6, hw6⟩ : ∃ W, W = w4.alloc (.cells #[.int .i64 c0, .slice b n c] 24) := ⟨_, rfl⟩
  have z6 : Below w4.heap.size w4 w6 := by rw [hw6]; exact (Below.refl _ _).alloc (Nat.le_refl _) _
  have s6 : w6.heap.size = w4.heap.size + 1 := by rw [hw6]; simp
  have hb6 := on hb5 z6
  have old6_R_0 := R_0
  have old6_R_1 := R_1
  replace R_0 := (z6.cell (p := ⟨w.heap.size, 0, none⟩) (by simp only []; omega)).trans R_0
  replace R_1 := (z6.cell (p := ⟨w.heap.size, 1, none⟩) (by simp only []; omega)).trans R_1
  replace R_f0 := (z6.frozen (p := ⟨w.heap.size, 0, none⟩) (by simp only []; omega)).trans R_f0
  replace R_f1 := (z6.frozen (p := ⟨w.heap.size, 1, none⟩) (by simp only []; omega)).trans R_f1
  replace HC := HC.below' z6 (by omega)
  replace oq := oq.below z6 (by omega)
  have X_0 : w6.cell? ⟨w4.heap.size, 0, none⟩ = some (.int .i64 c0) := by rw [hw6]; exact box_cell (Below.refl _ _) rfl
  have X_1 : w6.cell? ⟨w4.heap.size, 1, none⟩ = some (.slice b n c) := by rw [hw6]; exact box_cell (Below.refl _ _) rfl
  have raw6_R_0 := R_0
  have raw6_R_1 := R_1
  have raw6_R_f0 := R_f0
  have raw6_R_f1 := R_f1
  have raw6_X_0 := X_0
  have raw6_X_1 := X_1
  rw [hw6] at raw6_R_0 raw6_R_1 raw6_R_f0 raw6_R_f1 raw6_X_0 raw6_X_1
  go_wp2_with fail
  rw [← hw6]
  clear hw6
  clear old6_R_0 old6_R_1 raw6_R_0 raw6_R_1 raw6_R_f0 raw6_R_f1 raw6_X_0 raw6_X_1
  have hdr : Below w6.heap.size w6 w6.drew := (Below.refl _ _).drew
  refine wp_region_noPanic ?_
  refine wp_region_held_drew (S := (fun W => W.cell? ⟨w4.heap.size, 0, none⟩ = some (.int .i64 c0) ∧ W.cell? ⟨w4.heap.size, 1, none⟩ = some (.slice b n c))) (by kernel_rfl) ?hS7 (fun hHeld => ?_)
  case hS7 => exact ⟨X_0, X_1⟩
  refine wpAnyH_take (i := 0) (v := ?v0_8) rfl (by kernel_rfl) (by kernel_rfl) (by kernel_rfl) (fun _ _ _ h => h) (Or.inl ⟨by rfl, ?hy0_8⟩) (by assumption) ?rest0_8
  case hy0_8 => intro w hSw; (try dsimp only at hSw); go_simp; (try with_reducible rfl)
  try simp only [Act.put, List.getElem_toArray, List.getElem_cons_succ, List.getElem_cons_zero, List.setIfInBounds_toArray, List.set_cons_zero, List.set_cons_succ]
  refine wpAnyH_take (i := 1) (v := ?v1_9) rfl (by kernel_rfl) (by kernel_rfl) (by kernel_rfl) (fun _ _ _ h => h) (Or.inl ⟨by rfl, ?hy1_9⟩) (by assumption) ?rest1_9
  case hy1_9 => intro w hSw; (try dsimp only at hSw); go_simp; (try with_reducible rfl)
  try simp only [Act.put, List.getElem_toArray, List.getElem_cons_succ, List.getElem_cons_zero, List.setIfInBounds_toArray, List.set_cons_zero, List.set_cons_succ]
  refine wpAnyH_take (i := 4) (v := ?v4_10) rfl (by kernel_rfl) (by kernel_rfl) (by kernel_rfl) (fun _ _ _ h => h) (Or.inl ⟨by rfl, ?hy4_10⟩) (by assumption) ?rest4_10
  case hy4_10 => intro w hSw; (try dsimp only at hSw); go_simp; (try with_reducible rfl)
  try simp only [Act.put, List.getElem_toArray, List.getElem_cons_succ, List.getElem_cons_zero, List.setIfInBounds_toArray, List.set_cons_zero, List.set_cons_succ]
  refine wpAnyH_ready (rs := [2]) (by kernel_rfl) (by simp) ?_
  refine AllReadyH.cons rfl (fun K9 hK9 => ?_) AllReadyH.nil
  go_simp
  refine (l1Below_any _ cb ba bn bc 18 (by omega) (HC.below' hdr (by omega))).mono ?_
  rintro e wA ⟨k, rfl, hk0, hk1, hk2, HC2, tA0⟩
  have tA : Turn cb (cb + 1) w6 wA := (turn_below hdr (Nat.le_refl _)).trans tA0.turn
  have sA := tA.size
  have hbA : Below w.heap.size w wA := hb6.trans ((tA.below (by omega)).mono (by omega))
  have oqA := oq.turn tA (by omega)
  have hkr : 0 ≤ k ∧ k ≤ 18 := by omega
  have hkw : IntKind.i64.wrap (k - 1) = k - 1 := IntWalk.i64_in _ (by omega)
  clear hk0 hk1 hk2
  replace X_0 := (tA.cell (p := ⟨w4.heap.size, 0, none⟩) (by simp only []; omega) (by simp only []; omega)).trans X_0
  replace X_1 := (tA.cell (p := ⟨w4.heap.size, 1, none⟩) (by simp only []; omega) (by simp only []; omega)).trans X_1
  replace R_0 := (tA.cell (p := ⟨w.heap.size, 0, none⟩) (by simp only []; omega) (by simp only []; omega)).trans R_0
  replace R_1 := (tA.cell (p := ⟨w.heap.size, 1, none⟩) (by simp only []; omega) (by simp only []; omega)).trans R_1
  replace R_f0 := (tA.frozen (p := ⟨w.heap.size, 0, none⟩) (by simp only []; omega) (by simp only []; omega)).trans R_f0
  replace R_f1 := (tA.frozen (p := ⟨w.heap.size, 1, none⟩) (by simp only []; omega) (by simp only []; omega)).trans R_f1
  clear oq HC tA tA0
  refine hK9.out _ _ ⟨X_0, X_1⟩ (fun hHeld => ?_)
  clear hK9 K9
  try simp only [Act.put, List.getElem_toArray, List.getElem_cons_succ, List.getElem_cons_zero, List.setIfInBounds_toArray, List.set_cons_zero, List.set_cons_succ]
  refine wpAnyH_take (i := 3) (v := ?v3_11) rfl (by kernel_rfl) (by kernel_rfl) (by kernel_rfl) (fun _ _ _ h => h) (Or.inl ⟨by rfl, ?hy3_11⟩) (by assumption) ?rest3_11
  case hy3_11 => intro w hSw; (try dsimp only at hSw); go_simp; (try with_reducible rfl)
  try simp only [Act.put, List.getElem_toArray, List.getElem_cons_succ, List.getElem_cons_zero, List.setIfInBounds_toArray, List.set_cons_zero, List.set_cons_succ]
  refine wpAnyH_ready (rs := [5]) (by kernel_rfl) (by simp) ?_
  refine AllReadyH.cons rfl (fun K9 hK9 => ?_) AllReadyH.nil
  go_simp
  refine (l1Below_any _ cb ba bn bc 18 (by omega) HC2).mono ?_
  rintro e wB ⟨l, rfl, hl0, hl1, hl2, HC3, tB0⟩
  have tB : Turn cb (cb + 1) wA wB := tB0.turn
  have sB := tB.size
  have hbB : Below w.heap.size w wB := hbA.trans ((tB.below (by omega)).mono (by omega))
  have oqB := oqA.turn tB (by omega)
  have hlr : 0 ≤ l ∧ l ≤ 18 := by omega
  have hlw : IntKind.i64.wrap (l - 1) = l - 1 := IntWalk.i64_in _ (by omega)
  clear hl0 hl1 hl2
  replace X_0 := (tB.cell (p := ⟨w4.heap.size, 0, none⟩) (by simp only []; omega) (by simp only []; omega)).trans X_0
  replace X_1 := (tB.cell (p := ⟨w4.heap.size, 1, none⟩) (by simp only []; omega) (by simp only []; omega)).trans X_1
  replace R_0 := (tB.cell (p := ⟨w.heap.size, 0, none⟩) (by simp only []; omega) (by simp only []; omega)).trans R_0
  replace R_1 := (tB.cell (p := ⟨w.heap.size, 1, none⟩) (by simp only []; omega) (by simp only []; omega)).trans R_1
  replace R_f0 := (tB.frozen (p := ⟨w.heap.size, 0, none⟩) (by simp only []; omega) (by simp only []; omega)).trans R_f0
  replace R_f1 := (tB.frozen (p := ⟨w.heap.size, 1, none⟩) (by simp only []; omega) (by simp only []; omega)).trans R_f1
  clear oqA HC2 HC3 tB tB0
  refine hK9.out _ _ ⟨X_0, X_1⟩ (fun hHeld => ?_)
  clear hK9 K9
  try simp only [Act.put, List.getElem_toArray, List.getElem_cons_succ, List.getElem_cons_zero, List.setIfInBounds_toArray, List.set_cons_zero, List.set_cons_succ]
  refine wpAnyH_take (i := 6) (v := ?v6_12) rfl (by kernel_rfl) (by kernel_rfl) (by kernel_rfl) (fun _ _ _ h => h) (Or.inl ⟨by rfl, ?hy6_12⟩) (by assumption) ?rest6_12
  case hy6_12 => intro w hSw; (try dsimp only at hSw); go_simp; (try with_reducible rfl)
  try simp only [Act.put, List.getElem_toArray, List.getElem_cons_succ, List.getElem_cons_zero, List.setIfInBounds_toArray, List.set_cons_zero, List.set_cons_succ]
  refine wpAnyH_ready (rs := [7]) (by kernel_rfl) (by simp) ?_
  refine AllReadyH.cons rfl (fun K9 hK9 => ?_) AllReadyH.nil
  go_simp
  obtain ⟨wF, hwF⟩ : ∃ W, W = (wB.setCell ⟨w.heap.size, 0, none⟩ (.int .i64 c0)).setCell ⟨w.heap.size, 1, none⟩ (.slice b n c) := ⟨_, rfl⟩
  rw [← hwF]
  have zF : Below w.heap.size wB wF := by
    rw [hwF]
    repeat (refine Below.setCell ?_ (by simp only []; omega) _)
    exact Below.refl _ _
  have sF : wF.heap.size = wB.heap.size := by rw [hwF]; simp [World.setCell]
  have F_0 : wF.cell? ⟨w.heap.size, 0, none⟩ = some (.int .i64 c0) := by rw [hwF]; simp [go_sem, R_0, R_1]
  have F_1 : wF.cell? ⟨w.heap.size, 1, none⟩ = some (.slice b n c) := by rw [hwF]; simp [go_sem, R_0, R_1]
  have F_f0 : wF.frozen? ⟨w.heap.size, 0, none⟩ = false := by rw [hwF]; simp [go_sem, R_f0, R_f1]
  have F_f1 : wF.frozen? ⟨w.heap.size, 1, none⟩ = false := by rw [hwF]; simp [go_sem, R_f0, R_f1]
  have G_0 : wF.cell? ⟨w4.heap.size, 0, none⟩ = some (.int .i64 c0) := by
    rw [hwF]
    refine (World.cell?_of_block (a := ⟨w4.heap.size, 0, none⟩) ?_).trans X_0
    rw [Below.heap_setCell _ _ _ _ (by simp only []; omega), Below.heap_setCell _ _ _ _ (by simp only []; omega)]
  have G_1 : wF.cell? ⟨w4.heap.size, 1, none⟩ = some (.slice b n c) := by
    rw [hwF]
    refine (World.cell?_of_block (a := ⟨w4.heap.size, 1, none⟩) ?_).trans X_1
    rw [Below.heap_setCell _ _ _ _ (by simp only []; omega), Below.heap_setCell _ _ _ _ (by simp only []; omega)]
  have oqF : Own oQ lo4 hi5 wF [.int .i64 c0, .slice b n c] x := by
    rw [hwF]
    repeat (refine own_off ?_ rfl (by simp only []; omega))
    exact oqB
  clear hwF R_0 R_1 R_f0 R_f1 oqB X_0 X_1
  refine hK9.out _ _ ⟨G_0, G_1⟩ (fun hHeld => ?_)
  clear hK9 K9
  try simp only [Act.put, List.getElem_toArray, List.getElem_cons_succ, List.getElem_cons_zero, List.setIfInBounds_toArray, List.set_cons_zero, List.set_cons_succ]
  refine wpAnyH_take (i := 8) (v := ?v8_13) rfl (by kernel_rfl) (by kernel_rfl) (by kernel_rfl) (fun _ _ _ h => h) (Or.inl ⟨by rfl, ?hy8_13⟩) (by assumption) ?rest8_13
  case hy8_13 => intro w hSw; (try dsimp only at hSw); go_simp; (try with_reducible rfl)
  try simp only [Act.put, List.getElem_toArray, List.getElem_cons_succ, List.getElem_cons_zero, List.setIfInBounds_toArray, List.set_cons_zero, List.set_cons_succ]
  refine wpAnyH_take (i := 9) (v := ?v9_14) rfl (by kernel_rfl) (by kernel_rfl) (by kernel_rfl) (fun _ _ _ h => h) (Or.inl ⟨by rfl, ?hy9_14⟩) (by assumption) ?rest9_14
  case hy9_14 => intro w hSw; (try dsimp only at hSw); go_simp; (try with_reducible rfl)
  try simp only [Act.put, List.getElem_toArray, List.getElem_cons_succ, List.getElem_cons_zero, List.setIfInBounds_toArray, List.set_cons_zero, List.set_cons_succ]
  refine wpAnyH_done (by kernel_rfl) ?_ _
  refine NoPanic.normal ?_
  go_wp2_with fail
  refine bodyPost_ret (v := .tuple #[.agg #[.int .i64 c0, .slice b n c], .int .i64 (k - 1), .int .i64 (l - 1)]) (by simp [results, Tryd.results11, go_sem, F_0, F_1, F_f0, F_f1]) rfl ⟨c0, b, n, c, x, k - 1, l - 1, rfl, oqF.mono (by omega) (by omega), ⟨⟨by omega, by omega⟩, ⟨by omega, by omega⟩⟩, hbB.trans zF⟩

theorem own_blkS {α : Type} {t : TypeId} {o : OS α} {lo hi : Nat} {w : World} {b : Option Addr} {n c : Nat} {xs : List α} (h : Own (O.slice t o) lo hi w [.slice b n c] xs) (hn : 0 < n) : ∃ g, b = some ⟨g, 0, none⟩ ∧ lo ≤ g ∧ g < hi := by
  obtain ⟨fp, ⟨v, css, fps, hv, rfl, h1, h2⟩, hnn, hr⟩ := h
  simp only [List.cons.injEq, and_true] at hv
  subst hv
  rcases h1.2 with ⟨hv, h0⟩ | ⟨g, cap, cur, hv, _⟩
  · simp only [Value.slice.injEq] at hv; omega
  · simp only [Value.slice.injEq] at hv
    exact ⟨g, hv.1, hr g (List.mem_append_left _ (by rw [hv.1]; simp [bl, Value.ownBlock]))⟩

set_option maxRecDepth 100000 in
set_option maxHeartbeats 8000000 in
theorem drawAtomCols_any (w : World) (ba : Option Addr) (bn bc : Nat) (hn : bn ≤ 2000000) (h : Bytes w w.heap.size ba bn) :
    Calls Tryd.prog 23 #[.slice ba bn bc] w fun e w' => ∃ (m : ByteArray) (ab : Option Addr) (an ac : Nat) (lb : Option Addr) (ln lc : Nat) (x : DA) (ls : List Int), e = .returned (.tuple #[.agg #[.string m, .slice ab an ac], .slice lb ln lc]) ∧ rA.rep w' [.string m, .slice ab an ac] x ∧ x.2.length ≤ 3 ∧ rI.rep w' [.slice lb ln lc] ls ∧ Below w.heap.size w w' := by
  have hb0 : Below w.heap.size w w := Below.refl _ _
  go_enter Tryd.func23, Tryd.ntmps23
  obtain ⟨w1, hw1⟩ : ∃ W, W = w.alloc (.cells #[.string (ByteArray.mk #[]), .slice none 0 0] 43) := ⟨_, rfl⟩
  have z1 : Below w.heap.size w w1 := by rw [hw1]; exact (Below.refl _ _).alloc (Nat.le_refl _) _
  have s1 : w1.heap.size = w.heap.size + 1 := by rw [hw1]; simp
  have hb1 := on hb0 z1
  have R_0 : w1.cell? ⟨w.heap.size, 0, none⟩ = some (.string (ByteArray.mk #[])) := by rw [hw1]; exact box_cell (Below.refl _ _) rfl
  have R_1 : w1.cell? ⟨w.heap.size, 1, none⟩ = some (.slice none 0 0) := by rw [hw1]; exact box_cell (Below.refl _ _) rfl
  have R_f0 : w1.frozen? ⟨w.heap.size, 0, none⟩ = false := by rw [hw1]; exact box_frozen (Below.refl _ _)
  have R_f1 : w1.frozen? ⟨w.heap.size, 1, none⟩ = false := by rw [hw1]; exact box_frozen (Below.refl _ _)
  have raw1_R_0 := R_0
  have raw1_R_1 := R_1
  have raw1_R_f0 := R_f0
  have raw1_R_f1 := R_f1
  rw [hw1] at raw1_R_0 raw1_R_1 raw1_R_f0 raw1_R_f1
  have HBY := Lib.hid (h.at hb1)
  clear h
  go_wp2_with fail
  rw [← hw1]
  clear hw1
  clear raw1_R_0 raw1_R_1 raw1_R_f0 raw1_R_f1
  go_wp2_with fail
  refine (l1New_any _ ba bn bc hn HBY.out).mono ?_
  rintro e w2 ⟨cb, rfl, HC, z2, hcb1, hcb2⟩
  have s3 := z2.size
  have hb3 := on hb1 z2
  replace R_0 := (z2.cell (p := ⟨w.heap.size, 0, none⟩) (by simp only []; omega)).trans R_0
  replace R_1 := (z2.cell (p := ⟨w.heap.size, 1, none⟩) (by simp only []; omega)).trans R_1
  replace R_f0 := (z2.frozen (p := ⟨w.heap.size, 0, none⟩) (by simp only []; omega)).trans R_f0
  replace R_f1 := (z2.frozen (p := ⟨w.heap.size, 1, none⟩) (by simp only []; omega)).trans R_f1
  clear HBY
  go_wp2_with fail
  obtain ⟨lo4, hlo4⟩ : ∃ q, q = w2.heap.size := ⟨_, rfl⟩
  have HC_o := HC
  clear HC
  refine (l7Any_any3 _ cb ba bn bc HC_o (by omega)).mono ?_
  rintro e w4 ⟨c0, b, n, c, x, rfl, oq, hx15, HC, z4⟩
  clear HC_o
  have s5 := z4.size
  have hb5 := hb3.trans ((z4.below (by omega)).mono (by omega))
  replace R_0 := (z4.cell (p := ⟨w.heap.size, 0, none⟩) (by simp only []; omega) (by simp only []; omega)).trans R_0
  replace R_1 := (z4.cell (p := ⟨w.heap.size, 1, none⟩) (by simp only []; omega) (by simp only []; omega)).trans R_1
  replace R_f0 := (World.frozen?_of_block (a := ⟨w.heap.size, 0, none⟩) (z4.block _ (by simp only []; omega) (by simp only []; omega))).trans R_f0
  replace R_f1 := (World.frozen?_of_block (a := ⟨w.heap.size, 1, none⟩) (z4.block _ (by simp only []; omega) (by simp only []; omega))).trans R_f1
  rw [← hlo4] at oq
  obtain ⟨hi5, hhi5⟩ : ∃ q, q = w4.heap.size := ⟨_, rfl⟩
  rw [← hhi5] at oq
  have hlh : w.heap.size + 1 ≤ lo4 ∧ cb + 1 ≤ lo4 := by omega
  have hlh2 : lo4 ≤ hi5 := by omega
  obtain ⟨hx15, hx3⟩ := hx15
  have HX3 := Lib.hid hx3
  clear hx3
  obtain ⟨w6, hw6⟩ : ∃ W, W = w4.alloc (.cells #[.int .i64 c0, .slice b n c] 24) := ⟨_, rfl⟩
  have z6 : Below w4.heap.size w4 w6 := by rw [hw6]; exact (Below.refl _ _).alloc (Nat.le_refl _) _
  have s6 : w6.heap.size = w4.heap.size + 1 := by rw [hw6]; simp
  have hb6 := on hb5 z6
  have old6_R_0 := R_0
  have old6_R_1 := R_1
  replace R_0 := (z6.cell (p := ⟨w.heap.size, 0, none⟩) (by simp only []; omega)).trans R_0
  replace R_1 := (z6.cell (p := ⟨w.heap.size, 1, none⟩) (by simp only []; omega)).trans R_1
  replace R_f0 := (z6.frozen (p := ⟨w.heap.size, 0, none⟩) (by simp only []; omega)).trans R_f0
  replace R_f1 := (z6.frozen (p := ⟨w.heap.size, 1, none⟩) (by simp only []; omega)).trans R_f1
  replace HC := HC.below' z6 (by omega)
  replace oq := oq.below z6 (by omega)
  have X_0 : w6.cell? ⟨w4.heap.size, 0, none⟩ = some (.int .i64 c0) := by rw [hw6]; exact box_cell (Below.refl _ _) rfl
  have X_1 : w6.cell? ⟨w4.heap.size, 1, none⟩ = some (.slice b n c) := by rw [hw6]; exact box_cell (Below.refl _ _) rfl
  have raw6_R_0 := R_0
  have raw6_R_1 := R_1
  have raw6_R_f0 := R_f0
  have raw6_R_f1 := R_f1
  have raw6_X_0 := X_0
  have raw6_X_1 := X_1
  rw [hw6] at raw6_R_0 raw6_R_1 raw6_R_f0 raw6_R_f1 raw6_X_0 raw6_X_1
  go_wp2_with fail
  rw [← hw6]
  clear hw6
  clear old6_R_0 old6_R_1 raw6_R_0 raw6_R_1 raw6_R_f0 raw6_R_f1 raw6_X_0 raw6_X_1
  obtain ⟨wq, rfl⟩ : ∃ W, W = w6 := ⟨_, rfl⟩
  have hbq := hb6
  obtain ⟨lo6, hlo6⟩ : ∃ q, q = wq.heap.size := ⟨_, rfl⟩
  have hz6 : w4.heap.size < lo6 ∧ hi5 ≤ lo6 := by omega
  have hba : Below wq.heap.size wq (wq.alloc (.cells #[] 3)) := (Below.refl _ _).alloc (Nat.le_refl _) _
  have HC0 := Lib.hid (HC.below hba (by omega))
  have HO0 : Hid (Own oI lo6 (wq.alloc (.cells #[] 3)).heap.size (wq.alloc (.cells #[] 3)) [.slice (some ⟨wq.heap.size, 0, none⟩) 0 0] []) := Lib.hid (by rw [hlo6]; exact (own_empty (Nat.le_refl wq.heap.size)).own)
  have HO1 : Hid (Own oI lo6 (wq.alloc (.cells #[] 3)).heap.size (wq.alloc (.cells #[] 3)) [.slice (some ⟨w4.heap.size + 1, 0, none⟩) 0 0] []) := Lib.hid (by
    have e9 : w4.heap.size + 1 = wq.heap.size := by omega
    rw [e9]; exact HO0.out)
  have HT0 : Hid (Turn cb (cb + 1) wq (wq.alloc (.cells #[] 3))) := Lib.hid (turn_below hba (Nat.le_refl _))
  clear hba
  have hcq : cb < wq.heap.size := by omega
  go_loopw [6, 7] (fun v i wr => ∃ (j n9 c9 : Nat) (b9 : Option Addr) (xs : List Int), j ≤ 4 ∧ i = .int .i64 (j : Int) ∧ v = .slice b9 n9 c9 ∧ Own oI lo6 wr.heap.size wr [.slice b9 n9 c9] xs ∧ xs.length ≤ j ∧ Cur wr cb ba bn bc ∧ Turn cb (cb + 1) wq wr) (fun _ i _ => 4 - (intOf i).toNat)
  case atStart => exact ⟨0, 0, 0, _, [], Nat.zero_le _, rfl, rfl, HO1.out, Nat.le_refl _, HC0.out, HT0.out⟩
  case round =>
    clear HC
    obtain ⟨j, n9, c9, b9, xs, hj, rfl, rfl, ho, hxl, hcur, ht⟩ := hrel
    have hts := ht.size
    obtain ⟨wo, rfl⟩ : ∃ W, W = wr := ⟨_, rfl⟩
    by_cases hlt : j < 4
    · have HON := Lib.hid (l1Once_any wo cb ba bn bc 2 (by omega) hcur)
      have HOW := Lib.hid ho
      have HTT := Lib.hid ht
      clear HC0 HO0 HO1 HT0 hcur ho ht
      go_wp2_with fail
      refine HON.out.mono ?_
      rintro e w1 ⟨t, rfl, hc1, hk1⟩
      have o1 := HOW.out.kept hk1 (.inr (by omega))
      have hz1 : w1.heap.size ≤ wo.heap.size := Nat.le_of_eq hk1.size
      have hz2 : wo.heap.size ≤ w1.heap.size := Nat.le_of_eq hk1.size.symm
      have t1 := HTT.out.trans hk1.turn
      have HC1 := Lib.hid hc1
      clear hk1 hc1
      cases t with
      | true =>
        obtain ⟨na, nn, nc, wn, hrn, on, hbn, hzn⟩ := own_num 34 o1 (r := (j : Int)) ⟨by omega, by omega⟩ (by omega) (by omega) (by omega) rfl
        have HCN := Lib.hid (HC1.out.below (hbn.mono (show cb + 1 ≤ lo6 by omega)) (by omega))
        have TN := Lib.hid (turn_on' t1 (hbn.mono (show wq.heap.size ≤ lo6 by omega)))
        have ON := Lib.hid on
        clear o1 t1 on
        go_wp2_with ((at_builtin; refine wpList_app_run hrn rfl rfl rfl rfl rfl ?_))
        go_roundw
        case rel => exact ⟨j + 1, nn, nc, na, xs ++ [(j : Int)], by omega, by go_num, rfl, ON.out, by rw [List.length_append]; simp; omega, HCN.out, TN.out⟩
        case measure => simp [intOf]; omega
      | false =>
        have O1 := Lib.hid (o1.mono (Nat.le_refl _) (show wo.heap.size ≤ w1.heap.size by omega))
        have T1 := Lib.hid t1
        clear o1 t1
        go_wp2_with fail
        go_roundw
        case rel => exact ⟨j + 1, n9, c9, b9, xs, by omega, by go_num, rfl, O1.out, by omega, HC1.out, T1.out⟩
        case measure => simp [intOf]; omega
    · have x0 := (ht.cell (p := ⟨w4.heap.size, 0, none⟩) (by simp only []; omega) (by simp only []; omega)).trans X_0
      have x1 := (ht.cell (p := ⟨w4.heap.size, 1, none⟩) (by simp only []; omega) (by simp only []; omega)).trans X_1
      have r0 := (ht.cell (p := ⟨w.heap.size, 0, none⟩) (by simp only []; omega) (by simp only []; omega)).trans R_0
      have r1 := (ht.cell (p := ⟨w.heap.size, 1, none⟩) (by simp only []; omega) (by simp only []; omega)).trans R_1
      have rf0 := (ht.frozen (p := ⟨w.heap.size, 0, none⟩) (by simp only []; omega) (by simp only []; omega)).trans R_f0
      have rf1 := (ht.frozen (p := ⟨w.heap.size, 1, none⟩) (by simp only []; omega) (by simp only []; omega)).trans R_f1
      have oqo := oq.turn ht (by omega)
      have hbo : Below w.heap.size w wo := hbq.trans ((ht.below (by omega)).mono (by omega))
      clear HC0 HO0 HO1 HT0 ht oq X_0 X_1 R_0 R_1 R_f0 R_f1
      obtain ⟨_, _, oas, hnx⟩ := oQ_open oqo
      go_wp2_with fail
      have hdr : Below wo.heap.size wo wo.drew := (Below.refl _ _).drew
      have hn0 : 0 < n := by omega
      obtain ⟨g, rfl, hg1, hg2⟩ := own_blkS oas hn0
      have t0 := rS_sl (oas.rd reads_As)
      have hn6 : (n : Int) ≤ 1000000 := by omega
      clear hnx
      refine wp_region_noPanic ?_
      refine wp_region_held_drew (S := (fun W => W.cell? ⟨w4.heap.size, 1, none⟩ = some (.slice (some ⟨g, 0, none⟩) n c) ∧ Hid (∀ p : Addr, p.block = g → W.cell? p = wo.cell? p))) (by kernel_rfl) ?hS7 (fun hHeld => ?_)
      case hS7 => exact ⟨x1, Lib.hid (fun p hp => rfl)⟩
      refine wpAnyH_take (i := 0) (v := ?v0_8) rfl (by kernel_rfl) (by kernel_rfl) (by kernel_rfl) (fun _ _ _ h => h) (Or.inl ⟨by rfl, ?hy0_8⟩) (by assumption) ?rest0_8
      case hy0_8 => intro w hSw; (try dsimp only at hSw); go_simp; (try with_reducible rfl)
      try simp only [Act.put, List.getElem_toArray, List.getElem_cons_succ, List.getElem_cons_zero, List.setIfInBounds_toArray, List.set_cons_zero, List.set_cons_succ]
      refine wpAnyH_take (i := 1) (v := ?v1_9) rfl (by kernel_rfl) (by kernel_rfl) (by kernel_rfl) (fun _ _ _ h => h) (Or.inl ⟨by rfl, ?hy1_9⟩) (by assumption) ?rest1_9
      case hy1_9 => intro w hSw; (try dsimp only at hSw); go_simp; (try with_reducible rfl)
      try simp only [Act.put, List.getElem_toArray, List.getElem_cons_succ, List.getElem_cons_zero, List.setIfInBounds_toArray, List.set_cons_zero, List.set_cons_succ]
      refine wpAnyH_take (i := 2) (v := ?v2_10) rfl (by kernel_rfl) (by kernel_rfl) (by kernel_rfl) (fun _ _ _ h => h) (Or.inl ⟨by rfl, ?hy2_10⟩) (by assumption) ?rest2_10
      case hy2_10 => intro w hSw; (try dsimp only at hSw); go_simp; (try with_reducible rfl)
      try simp only [Act.put, List.getElem_toArray, List.getElem_cons_succ, List.getElem_cons_zero, List.setIfInBounds_toArray, List.set_cons_zero, List.set_cons_succ]
      refine wpAnyH_take (i := 3) (v := ?v3_11) rfl (by kernel_rfl) (by kernel_rfl) (by kernel_rfl) (fun _ _ _ h => h) (Or.inl ⟨by rfl, ?hy3_11⟩) (by assumption) ?rest3_11
      case hy3_11 => intro w hSw; (try dsimp only at hSw); go_simp; (try with_reducible rfl)
      try simp only [Act.put, List.getElem_toArray, List.getElem_cons_succ, List.getElem_cons_zero, List.setIfInBounds_toArray, List.set_cons_zero, List.set_cons_succ]
      refine wpAnyH_take (i := 4) (v := ?v4_12) rfl (by kernel_rfl) (by kernel_rfl) (by kernel_rfl) (fun _ _ _ h => h) (Or.inl ⟨by rfl, ?hy4_12⟩) (by assumption) ?rest4_12
      case hy4_12 => intro w hSw; (try dsimp only at hSw); go_simp; (try with_reducible rfl)
      try simp only [Act.put, List.getElem_toArray, List.getElem_cons_succ, List.getElem_cons_zero, List.setIfInBounds_toArray, List.set_cons_zero, List.set_cons_succ]
      refine wpAnyH_take (i := 5) (v := ?v5_13) rfl (by kernel_rfl) (by kernel_rfl) (by kernel_rfl) (fun _ _ _ h => h) (Or.inl ⟨by rfl, ?hy5_13⟩) (by assumption) ?rest5_13
      case hy5_13 => intro w hSw; (try dsimp only at hSw); go_simp; (try with_reducible rfl)
      try simp only [Act.put, List.getElem_toArray, List.getElem_cons_succ, List.getElem_cons_zero, List.setIfInBounds_toArray, List.set_cons_zero, List.set_cons_succ]
      refine wpAnyH_take (i := 9) (v := ?v9_14) rfl (by kernel_rfl) (by kernel_rfl) (by kernel_rfl) (fun _ _ _ h => h) (Or.inl ⟨by rfl, ?hy9_14⟩) (by assumption) ?rest9_14
      case hy9_14 => intro w hSw; (try dsimp only at hSw); go_simp; (try with_reducible rfl)
      try simp only [Act.put, List.getElem_toArray, List.getElem_cons_succ, List.getElem_cons_zero, List.setIfInBounds_toArray, List.set_cons_zero, List.set_cons_succ]
      refine wpAnyH_ready (rs := [6]) (by kernel_rfl) (by simp) ?_
      refine AllReadyH.cons rfl (fun K9 hK9 => ?_) AllReadyH.nil
      go_simp
      refine (l1Below_any _ cb ba bn bc (n : Int) hn6 (hcur.below' hdr (by omega))).mono ?_
      rintro e wA ⟨k, rfl, hk0, hk1, hk2, HC2, tA0⟩
      have tA : Turn cb (cb + 1) wo wA := (turn_below hdr (Nat.le_refl _)).trans tA0.turn
      have sA := tA.size
      have hkn := hk1 (by omega)
      obtain ⟨kn, rfl⟩ : ∃ q : Nat, k = (q : Int) := ⟨k.toNat, by omega⟩
      have hkN : kn < n := by omega
      clear hk0 hk1 hk2 HC2 tA0
      obtain ⟨b1, o1, cs, a, e1, hxa, hra, hca⟩ := t0.at hkN
      simp only [Option.some.injEq, Addr.mk.injEq, and_true] at e1
      obtain ⟨e1, e2⟩ := e1
      subst e1
      subst e2
      obtain ⟨ab, an, ac, rfl, hs0, gv⟩ := rA_open hra
      obtain ⟨m, hm⟩ : ∃ q, a.1 = q := ⟨_, rfl⟩
      have e_0 : wo.cell? ⟨g, kn * 2, none⟩ = some (.string m) := by
        have h9 : wo.cell? ⟨g, 0 + (kn * 2 + 0), none⟩ = some (.string a.1) := hca 0 _ rfl
        rw [← hm]; simpa using h9
      have e_1 : wo.cell? ⟨g, kn * 2 + 1, none⟩ = some (.slice ab an ac) := by have h9 := hca 1 _ rfl; rw [Nat.zero_add] at h9; exact h9
      have HM := Lib.hid hm
      have hga : ∀ p : Addr, p.block = g → wA.cell? p = wo.cell? p := fun p hp => tA.cell (p := p) (by rw [hp]; omega) (by rw [hp]; omega)
      have hbA : Below w.heap.size w wA := hbo.trans ((tA.below (by omega)).mono (by omega))
      have oasA := oas.turn tA (by omega)
      have oiA := ho.turn tA (by omega)
      have x1A := (tA.cell (p := ⟨w4.heap.size, 1, none⟩) (by simp only []; omega) (by simp only []; omega)).trans x1
      have r0A := (tA.cell (p := ⟨w.heap.size, 0, none⟩) (by simp only []; omega) (by simp only []; omega)).trans r0
      have r1A := (tA.cell (p := ⟨w.heap.size, 1, none⟩) (by simp only []; omega) (by simp only []; omega)).trans r1
      have rf0A := (tA.frozen (p := ⟨w.heap.size, 0, none⟩) (by simp only []; omega) (by simp only []; omega)).trans rf0
      have rf1A := (tA.frozen (p := ⟨w.heap.size, 1, none⟩) (by simp only []; omega) (by simp only []; omega)).trans rf1
      have HGA := Lib.hid hga
      clear hga hra hca gv hs0 hm tA t0 oas ho x1 r0 r1 rf0 rf1 hxa
      refine hK9.out _ _ ⟨x1A, HGA⟩ (fun hHeld => ?_)
      clear hK9 K9
      try simp only [Act.put, List.getElem_toArray, List.getElem_cons_succ, List.getElem_cons_zero, List.setIfInBounds_toArray, List.set_cons_zero, List.set_cons_succ]
      refine wpAnyH_take (i := 7) (v := ?v7_15) rfl (by kernel_rfl) (by kernel_rfl) (by kernel_rfl) (fun _ _ _ h => h) (Or.inl ⟨by rfl, ?hy7_15⟩) (by assumption) ?rest7_15
      case hy7_15 => intro w hSw; (try dsimp only at hSw); go_simp; (try with_reducible rfl)
      try simp only [Act.put, List.getElem_toArray, List.getElem_cons_succ, List.getElem_cons_zero, List.setIfInBounds_toArray, List.set_cons_zero, List.set_cons_succ]
      refine wpAnyH_take (i := 8) (v := .agg #[.string m, .slice ab an ac]) rfl (by kernel_rfl) (by kernel_rfl) (by kernel_rfl) (fun _ _ _ h => h) (Or.inl ⟨by rfl, ?hy8⟩) (by assumption) ?rest8
      case hy8 =>
        intro W hSw
        have f0 := (hSw.2.out ⟨g, kn * 2, none⟩ rfl).trans e_0
        have f1 := (hSw.2.out ⟨g, kn * 2 + 1, none⟩ rfl).trans e_1
        clear hSw e_0 e_1 hHeld HGA
        go_simp
        try with_reducible rfl
      try simp only [Act.put, List.getElem_toArray, List.getElem_cons_succ, List.getElem_cons_zero, List.setIfInBounds_toArray, List.set_cons_zero, List.set_cons_succ]
      refine wpAnyH_ready (rs := [10]) (by kernel_rfl) (by simp) ?_
      refine AllReadyH.cons rfl (fun K9 hK9 => ?_) AllReadyH.nil
      go_simp
      obtain ⟨wF, hwF⟩ : ∃ W, W = (wA.setCell ⟨w.heap.size, 0, none⟩ (.string m)).setCell ⟨w.heap.size, 1, none⟩ (.slice ab an ac) := ⟨_, rfl⟩
      rw [← hwF]
      have zF : Below w.heap.size wA wF := by
        rw [hwF]
        repeat (refine Below.setCell ?_ (by simp only []; omega) _)
        exact Below.refl _ _
      have sF : wF.heap.size = wA.heap.size := by rw [hwF]; simp [World.setCell]
      have F_0 : wF.cell? ⟨w.heap.size, 0, none⟩ = some (.string m) := by rw [hwF]; simp [go_sem, r0A, r1A]
      have F_1 : wF.cell? ⟨w.heap.size, 1, none⟩ = some (.slice ab an ac) := by rw [hwF]; simp [go_sem, r0A, r1A]
      have F_f0 : wF.frozen? ⟨w.heap.size, 0, none⟩ = false := by rw [hwF]; simp [go_sem, rf0A, rf1A]
      have F_f1 : wF.frozen? ⟨w.heap.size, 1, none⟩ = false := by rw [hwF]; simp [go_sem, rf0A, rf1A]
      have hgF : ∀ p : Addr, p.block ≠ w.heap.size → wF.cell? p = wA.cell? p := fun p hp => by
        rw [hwF]
        refine World.cell?_of_block (a := p) ?_
        rw [Below.heap_setCell _ _ _ _ (by simp only []; omega), Below.heap_setCell _ _ _ _ (by simp only []; omega)]
      have G_1 : wF.cell? ⟨w4.heap.size, 1, none⟩ = some (.slice (some ⟨g, 0, none⟩) n c) := (hgF _ (by simp only []; omega)).trans x1A
      have G_g : Hid (∀ p : Addr, p.block = g → wF.cell? p = wo.cell? p) := Lib.hid (fun p hp => (hgF p (by rw [hp]; omega)).trans (HGA.out p hp))
      have oasF : Own oAs lo4 hi5 wF [.slice (some ⟨g, 0, none⟩) n c] x.2 := by
        rw [hwF]
        repeat (refine own_off ?_ rfl (by simp only []; omega))
        exact oasA
      have oiF : Own oI lo6 wo.heap.size wF [.slice b9 n9 c9] xs := by
        rw [hwF]
        repeat (refine own_off ?_ rfl (by simp only []; omega))
        exact oiA
      have hres : ∃ a9 : DA, rA.rep wF [.string m, .slice ab an ac] a9 ∧ a9.2.length ≤ 3 := by
        obtain ⟨b2, o2, cs2, a2, e3, hx2, hr2, hc2⟩ := (rS_sl (oasF.rd reads_As)).at hkN
        simp only [Option.some.injEq, Addr.mk.injEq, and_true] at e3
        obtain ⟨e3, e4⟩ := e3
        subst e3
        subst e4
        obtain ⟨vb, vn, vc, rfl, hs0, gv⟩ := rA_open hr2
        have q0 : wF.cell? ⟨g, 0 + (kn * 2 + 0), none⟩ = some (.string a2.1) := hc2 0 _ rfl
        have q1 : wF.cell? ⟨g, 0 + (kn * 2 + 1), none⟩ = some (.slice vb vn vc) := hc2 1 _ rfl
        have p0 := (G_g.out ⟨g, kn * 2, none⟩ rfl).trans e_0
        have p1 := (G_g.out ⟨g, kn * 2 + 1, none⟩ rfl).trans e_1
        rw [Nat.zero_add] at q0 q1
        have i0 := p0.symm.trans q0
        have i1 := p1.symm.trans q1
        simp only [Option.some.injEq, Value.string.injEq] at i0
        simp only [Option.some.injEq] at i1
        rw [i0, i1]
        exact ⟨a2, hr2, HX3.out a2 (List.mem_of_getElem? hx2.out)⟩
      have HRES := Lib.hid hres
      clear hres hwF hgF oasA oiA oasF r0A r1A rf0A rf1A x1A
      refine hK9.out _ _ ⟨G_1, G_g⟩ (fun hHeld => ?_)
      clear hK9 K9
      try simp only [Act.put, List.getElem_toArray, List.getElem_cons_succ, List.getElem_cons_zero, List.setIfInBounds_toArray, List.set_cons_zero, List.set_cons_succ]
      refine wpAnyH_take (i := 11) (v := ?v11_16) rfl (by kernel_rfl) (by kernel_rfl) (by kernel_rfl) (fun _ _ _ h => h) (Or.inl ⟨by rfl, ?hy11_16⟩) (by assumption) ?rest11_16
      case hy11_16 => intro w hSw; (try dsimp only at hSw); go_simp; (try with_reducible rfl)
      try simp only [Act.put, List.getElem_toArray, List.getElem_cons_succ, List.getElem_cons_zero, List.setIfInBounds_toArray, List.set_cons_zero, List.set_cons_succ]
      refine wpAnyH_done (by kernel_rfl) ?_ _
      refine NoPanic.normal ?_
      go_wp2_with fail
      obtain ⟨a9, hr9, hl9⟩ := HRES.out
      refine bodyPost_ret (v := .tuple #[.agg #[.string m, .slice ab an ac], .slice b9 n9 c9]) (by simp [results, Tryd.results23, go_sem, F_0, F_1, F_f0, F_f1]) rfl ⟨m, ab, an, ac, b9, n9, c9, a9, xs, rfl, hr9, hl9, oiF.rd reads_I, hbA.trans zF⟩

end Go.Proofs.YtpgfkjcekhifiaaDoor
