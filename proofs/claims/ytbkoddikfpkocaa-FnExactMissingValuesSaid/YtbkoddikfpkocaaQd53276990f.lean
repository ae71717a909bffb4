/- Texts joined for one claim: MissS, LMissingValues. -/
import Derived.Test.YtbkoddikfpkocaaQcb6dc80fc0
import Derived.Deep.RegionHeld3

/- Contracts: values that are missing, by the reference; whether an inclusion holds. -/
namespace Go.Proofs.Ytbkoddikfpkocaa
open Go.RowKit
set_option linter.unusedVariables false
set_option linter.unusedSimpArgs false
set_option synthInstance.maxSize 2000
set_option synthInstance.maxHeartbeats 400000

theorem ownT_rows {lo hi vn vc : Nat} {w : World} {ns : ByteArray} {A : Int} {vb : Option Addr} {r : List (List Int)} (h : Own oT lo hi w [.string ns, .int .i64 A, .slice vb vn vc] (ns, A, r)) : Sl rI w vb vn r := by
  obtain ⟨vb2, vn2, vc2, he9, _, _, gr⟩ := rT_open (h.rd reads_T)
  simp at he9
  obtain ⟨rfl, rfl, rfl⟩ := he9
  exact rS_sl gr
theorem has_snoc_no {xs : List Int} {x v : Int} (h : has xs v = false) : has (xs ++ [x]) v = decide (x = v) := by
  rw [Bool.eq_iff_iff]
  simp only [has, decide_eq_true_eq, decide_eq_false_iff_not, List.mem_append, List.mem_singleton] at *
  constructor
  · rintro (h' | h')
    · exact absurd h' h
    · exact h'.symm
  · exact fun h' => .inr h'.symm
theorem has_snoc_yes {xs : List Int} {x v : Int} (h : has xs v = true) : has (xs ++ [x]) v = true := by
  simp only [has, decide_eq_true_eq, List.mem_append] at *
  exact .inl h

set_option maxRecDepth 100000 in
set_option maxHeartbeats 4000000 in
theorem missing_spec (cs ds : List Value) (db : DDb) (x : DIn) (w : World) (h : rDb.rep w cs db) (h' : rIn.rep w ds x) :
    Calls Try.prog 78 #[.agg cs.toArray, .agg ds.toArray] w fun e w' => ∃ u, e = .returned u ∧ Own oI w.heap.size w'.heap.size w' [u] (missing db x) ∧ Below w.heap.size w w' := by
  obtain ⟨ub, un, uc, rfl, g1⟩ := rDb_open h
  obtain ⟨rfl, hs0, hi1, hs2, hi3⟩ := rIn_open h'
  have hcv := fun W (hW : Below w.heap.size w W) => validIn_spec _ _ db x W (rDb.mono h hW) (rIn.mono h' hW)
  obtain ⟨m1, c1, m2, c2⟩ := x
  simp only at hs0 hi1 hs2 hi3 hcv
  have HCV := Lib.hid hcv
  have HCK := Lib.hid (fun name W (hW : Below w.heap.size w W) => lookS_any [.slice ub un uc] db name W (rDb.mono h hW))
  clear hcv h h' g1 hs0 hi1 hs2 hi3
  have hb0 : Below w.heap.size w w := Below.refl _ _
  go_enter Try.func78, Try.ntmps78
  obtain ⟨w1, hw1⟩ : ∃ W, W = w.alloc (.cells #[.slice ub un uc] 89) := ⟨_, rfl⟩
  have z1 : Below w.heap.size w w1 := by rw [hw1]; exact (Below.refl _ _).alloc (Nat.le_refl _) _
  have s1 : w1.heap.size = w.heap.size + 1 := by rw [hw1]; simp
  have hb1 := on hb0 z1
  have b_0 : w1.cell? ⟨w.heap.size, 0, none⟩ = some (.slice ub un uc) := by rw [hw1]; exact box_cell (Below.refl _ _) rfl
  have raw1_b_0 := b_0
  rw [hw1] at raw1_b_0
  obtain ⟨w2, hw2⟩ : ∃ W, W = w1.alloc (.cells #[.string m1, .int .i64 c1, .string m2, .int .i64 c2] 91) := ⟨_, rfl⟩
  have z2 : Below w1.heap.size w1 w2 := by rw [hw2]; exact (Below.refl _ _).alloc (Nat.le_refl _) _
  have s2 : w2.heap.size = w1.heap.size + 1 := by rw [hw2]; simp
  have hb2 := on hb1 z2
  replace b_0 := (z2.cell (p := ⟨w.heap.size, 0, none⟩) (by simp only []; omega)).trans b_0
  have e2 : w1.heap.size = w.heap.size + 1 := by omega
  have x_0 : w2.cell? ⟨w1.heap.size, 0, none⟩ = some (.string m1) := by rw [hw2]; exact box_cell (Below.refl _ _) rfl
  have x_1 : w2.cell? ⟨w1.heap.size, 1, none⟩ = some (.int .i64 c1) := by rw [hw2]; exact box_cell (Below.refl _ _) rfl
  have x_2 : w2.cell? ⟨w1.heap.size, 2, none⟩ = some (.string m2) := by rw [hw2]; exact box_cell (Below.refl _ _) rfl
  have x_3 : w2.cell? ⟨w1.heap.size, 3, none⟩ = some (.int .i64 c2) := by rw [hw2]; exact box_cell (Below.refl _ _) rfl
  rw [e2] at x_0 x_1 x_2 x_3
  have raw2_b_0 := b_0
  have raw2_x_0 := x_0
  have raw2_x_1 := x_1
  have raw2_x_2 := x_2
  have raw2_x_3 := x_3
  rw [hw2, hw1] at raw2_b_0 raw2_x_0 raw2_x_1 raw2_x_2 raw2_x_3
  obtain ⟨w3, hw3⟩ : ∃ W, W = w2.alloc (.cells #[] 3) := ⟨_, rfl⟩
  have z3 : Below w2.heap.size w2 w3 := by rw [hw3]; exact (Below.refl _ _).alloc (Nat.le_refl _) _
  have s3 : w3.heap.size = w2.heap.size + 1 := by rw [hw3]; simp
  have hb3 := on hb2 z3
  replace b_0 := (z3.cell (p := ⟨w.heap.size, 0, none⟩) (by simp only []; omega)).trans b_0
  replace x_0 := (z3.cell (p := ⟨w.heap.size + 1, 0, none⟩) (by simp only []; omega)).trans x_0
  replace x_1 := (z3.cell (p := ⟨w.heap.size + 1, 1, none⟩) (by simp only []; omega)).trans x_1
  replace x_2 := (z3.cell (p := ⟨w.heap.size + 1, 2, none⟩) (by simp only []; omega)).trans x_2
  replace x_3 := (z3.cell (p := ⟨w.heap.size + 1, 3, none⟩) (by simp only []; omega)).trans x_3
  have ho : ∀ S, Acc 3 O.int w2.heap.size S w3.heap.size w3 (.slice (some ⟨w.heap.size + 1 + 1, 0, none⟩) 0 0) [] := fun S => by rw [hw3]; exact Acc.empty (by omega) (by first | (simp; done) | (simp; omega))
  have raw3_b_0 := b_0
  have raw3_x_0 := x_0
  have raw3_x_1 := x_1
  have raw3_x_2 := x_2
  have raw3_x_3 := x_3
  rw [hw3, hw2, hw1] at raw3_b_0 raw3_x_0 raw3_x_1 raw3_x_2 raw3_x_3
  go_wp2_with fail
  rw [← hw1]
  rw [← hw2]
  rw [← hw3]
  clear hw3 hw2 hw1
  clear raw1_b_0 raw2_b_0 raw2_x_0 raw2_x_1 raw2_x_2 raw2_x_3 raw3_b_0 raw3_x_0 raw3_x_1 raw3_x_2 raw3_x_3
  refine (HCV.out _ hb3).mono ?_
  rintro e wA ⟨rfl, zA⟩
  have s4 := zA.size
  have hb4 := on hb3 zA
  replace b_0 := (zA.cell (p := ⟨w.heap.size, 0, none⟩) (by simp only []; omega)).trans b_0
  replace x_0 := (zA.cell (p := ⟨w.heap.size + 1, 0, none⟩) (by simp only []; omega)).trans x_0
  replace x_1 := (zA.cell (p := ⟨w.heap.size + 1, 1, none⟩) (by simp only []; omega)).trans x_1
  replace x_2 := (zA.cell (p := ⟨w.heap.size + 1, 2, none⟩) (by simp only []; omega)).trans x_2
  replace x_3 := (zA.cell (p := ⟨w.heap.size + 1, 3, none⟩) (by simp only []; omega)).trans x_3
  replace ho := fun S => (ho S).below zA (by omega)
  by_cases hv : validIn db (m1, c1, m2, c2) = true
  case neg =>
    replace hv : validIn db (m1, c1, m2, c2) = false := by simpa using hv
    have HE : Hid (missing db (m1, c1, m2, c2) = []) := Lib.hid (by simp [missing, hv])
    have HO := Lib.hid ((ho wA.heap.size).own (B := w.heap.size) (by omega) (by omega) (by omega : _ ≤ wA.heap.size))
    rw [hv]
    go_wp2_with fail
    go_ret
    refine ⟨_, rfl, ?_, hb4⟩
    rw [HE.out]
    first | exact HO.out | (have h9 := HO.out; simpa using h9)
  obtain ⟨hsm1, hsm2, n1, n2, rfl, rfl, hn1, hn2⟩ := validIn_facts hv
  have hok1 := look_okT hsm1
  have hok2 := look_okT hsm2
  have HE : Hid (missing db (m1, (n1 : Int), m2, (n2 : Int)) = missTo (colVals (lookT (look db m1)).2.2 n1) (colVals (lookT (look db m2)).2.2 n2) 10) := Lib.hid (by simp [missing, hv])
  rw [hv]
  clear hv
  have hc1 := fun W hW => HCK.out m1 W hW
  have hc2 := fun W hW => HCK.out m2 W hW
  obtain ⟨t1, ht1⟩ : ∃ t, lookT (look db m1) = t := ⟨_, rfl⟩
  obtain ⟨t2, ht2⟩ : ∃ t, lookT (look db m2) = t := ⟨_, rfl⟩
  rw [ht1] at hok1 hn1 HE
  rw [ht2] at hok2 hn2 HE
  simp only [hsm1, ht1] at hc1
  simp only [hsm2, ht2] at hc2
  obtain ⟨ns, A, r1⟩ := t1
  obtain ⟨ms, B, r2⟩ := t2
  simp only at hn1 hn2 HE hc1 hc2
  have HR1 := Lib.hid hok1.row
  have HR2 := Lib.hid hok2.row
  simp only at HR1 HR2
  have HC1 := Lib.hid hc1
  have HC2 := Lib.hid hc2
  clear hc1 hc2 ht1 ht2 hok1 hok2 hsm1 hsm2 HCK HCV
  go_wp2_with fail
  refine (HC1.out _ hb4).mono ?_
  rintro e wB ⟨vb, vn, vc, rfl, ht1, zB⟩
  have s5 := zB.size
  have hb5 := on hb4 zB
  replace b_0 := (zB.cell (p := ⟨w.heap.size, 0, none⟩) (by simp only []; omega)).trans b_0
  replace x_0 := (zB.cell (p := ⟨w.heap.size + 1, 0, none⟩) (by simp only []; omega)).trans x_0
  replace x_1 := (zB.cell (p := ⟨w.heap.size + 1, 1, none⟩) (by simp only []; omega)).trans x_1
  replace x_2 := (zB.cell (p := ⟨w.heap.size + 1, 2, none⟩) (by simp only []; omega)).trans x_2
  replace x_3 := (zB.cell (p := ⟨w.heap.size + 1, 3, none⟩) (by simp only []; omega)).trans x_3
  replace ho := fun S => (ho S).below zB (by omega)
  have hl1 := (ownT_rows ht1).len
  have hn1s := (ownT_rows ht1).small
  obtain ⟨w6, hw6⟩ : ∃ W, W = wB.alloc (.cells #[.string ns, .int .i64 A, .slice vb vn vc] 34) := ⟨_, rfl⟩
  have z6 : Below wB.heap.size wB w6 := by rw [hw6]; exact (Below.refl _ _).alloc (Nat.le_refl _) _
  have s6 : w6.heap.size = wB.heap.size + 1 := by rw [hw6]; simp
  have hb6 := on hb5 z6
  have old6_b_0 := b_0
  have old6_x_0 := x_0
  have old6_x_1 := x_1
  have old6_x_2 := x_2
  have old6_x_3 := x_3
  replace b_0 := (z6.cell (p := ⟨w.heap.size, 0, none⟩) (by simp only []; omega)).trans b_0
  replace x_0 := (z6.cell (p := ⟨w.heap.size + 1, 0, none⟩) (by simp only []; omega)).trans x_0
  replace x_1 := (z6.cell (p := ⟨w.heap.size + 1, 1, none⟩) (by simp only []; omega)).trans x_1
  replace x_2 := (z6.cell (p := ⟨w.heap.size + 1, 2, none⟩) (by simp only []; omega)).trans x_2
  replace x_3 := (z6.cell (p := ⟨w.heap.size + 1, 3, none⟩) (by simp only []; omega)).trans x_3
  replace ho := fun S => (ho S).below z6 (by omega)
  replace ht1 := ht1.below z6 (by omega)
  have ta_0 : w6.cell? ⟨wB.heap.size, 0, none⟩ = some (.string ns) := by rw [hw6]; exact box_cell (Below.refl _ _) rfl
  have ta_1 : w6.cell? ⟨wB.heap.size, 1, none⟩ = some (.int .i64 A) := by rw [hw6]; exact box_cell (Below.refl _ _) rfl
  have ta_2 : w6.cell? ⟨wB.heap.size, 2, none⟩ = some (.slice vb vn vc) := by rw [hw6]; exact box_cell (Below.refl _ _) rfl
  have raw6_b_0 := b_0
  have raw6_x_0 := x_0
  have raw6_x_1 := x_1
  have raw6_x_2 := x_2
  have raw6_x_3 := x_3
  have raw6_ta_0 := ta_0
  have raw6_ta_1 := ta_1
  have raw6_ta_2 := ta_2
  rw [hw6] at raw6_b_0 raw6_x_0 raw6_x_1 raw6_x_2 raw6_x_3 raw6_ta_0 raw6_ta_1 raw6_ta_2
  go_wp2_with fail
  rw [← hw6]
  clear hw6
  clear old6_b_0 old6_x_0 old6_x_1 old6_x_2 old6_x_3 raw6_b_0 raw6_x_0 raw6_x_1 raw6_x_2 raw6_x_3 raw6_ta_0 raw6_ta_1 raw6_ta_2
  refine (HC2.out _ hb6).mono ?_
  rintro e wC ⟨ub2, un2, uc2, rfl, ht2, zC⟩
  have s7 := zC.size
  have hb7 := on hb6 zC
  replace b_0 := (zC.cell (p := ⟨w.heap.size, 0, none⟩) (by simp only []; omega)).trans b_0
  replace x_0 := (zC.cell (p := ⟨w.heap.size + 1, 0, none⟩) (by simp only []; omega)).trans x_0
  replace x_1 := (zC.cell (p := ⟨w.heap.size + 1, 1, none⟩) (by simp only []; omega)).trans x_1
  replace x_2 := (zC.cell (p := ⟨w.heap.size + 1, 2, none⟩) (by simp only []; omega)).trans x_2
  replace x_3 := (zC.cell (p := ⟨w.heap.size + 1, 3, none⟩) (by simp only []; omega)).trans x_3
  replace ho := fun S => (ho S).below zC (by omega)
  replace ht1 := ht1.below zC (by omega)
  replace ta_0 := (zC.cell (p := ⟨wB.heap.size, 0, none⟩) (by simp only []; omega)).trans ta_0
  replace ta_1 := (zC.cell (p := ⟨wB.heap.size, 1, none⟩) (by simp only []; omega)).trans ta_1
  replace ta_2 := (zC.cell (p := ⟨wB.heap.size, 2, none⟩) (by simp only []; omega)).trans ta_2
  have hl2 := (ownT_rows ht2).len
  have hn2s := (ownT_rows ht2).small
  clear HC1 HC2
  obtain ⟨w8, hw8⟩ : ∃ W, W = wC.alloc (.cells #[.string ms, .int .i64 B, .slice ub2 un2 uc2] 34) := ⟨_, rfl⟩
  have z8 : Below wC.heap.size wC w8 := by rw [hw8]; exact (Below.refl _ _).alloc (Nat.le_refl _) _
  have s8 : w8.heap.size = wC.heap.size + 1 := by rw [hw8]; simp
  have hb8 := on hb7 z8
  have old8_b_0 := b_0
  have old8_x_0 := x_0
  have old8_x_1 := x_1
  have old8_x_2 := x_2
  have old8_x_3 := x_3
  have old8_ta_0 := ta_0
  have old8_ta_1 := ta_1
  have old8_ta_2 := ta_2
  replace b_0 := (z8.cell (p := ⟨w.heap.size, 0, none⟩) (by simp only []; omega)).trans b_0
  replace x_0 := (z8.cell (p := ⟨w.heap.size + 1, 0, none⟩) (by simp only []; omega)).trans x_0
  replace x_1 := (z8.cell (p := ⟨w.heap.size + 1, 1, none⟩) (by simp only []; omega)).trans x_1
  replace x_2 := (z8.cell (p := ⟨w.heap.size + 1, 2, none⟩) (by simp only []; omega)).trans x_2
  replace x_3 := (z8.cell (p := ⟨w.heap.size + 1, 3, none⟩) (by simp only []; omega)).trans x_3
  replace ho := fun S => (ho S).below z8 (by omega)
  replace ht1 := ht1.below z8 (by omega)
  replace ta_0 := (z8.cell (p := ⟨wB.heap.size, 0, none⟩) (by simp only []; omega)).trans ta_0
  replace ta_1 := (z8.cell (p := ⟨wB.heap.size, 1, none⟩) (by simp only []; omega)).trans ta_1
  replace ta_2 := (z8.cell (p := ⟨wB.heap.size, 2, none⟩) (by simp only []; omega)).trans ta_2
  replace ht2 := ht2.below z8 (by omega)
  have tb_0 : w8.cell? ⟨wC.heap.size, 0, none⟩ = some (.string ms) := by rw [hw8]; exact box_cell (Below.refl _ _) rfl
  have tb_1 : w8.cell? ⟨wC.heap.size, 1, none⟩ = some (.int .i64 B) := by rw [hw8]; exact box_cell (Below.refl _ _) rfl
  have tb_2 : w8.cell? ⟨wC.heap.size, 2, none⟩ = some (.slice ub2 un2 uc2) := by rw [hw8]; exact box_cell (Below.refl _ _) rfl
  have raw8_b_0 := b_0
  have raw8_x_0 := x_0
  have raw8_x_1 := x_1
  have raw8_x_2 := x_2
  have raw8_x_3 := x_3
  have raw8_ta_0 := ta_0
  have raw8_ta_1 := ta_1
  have raw8_ta_2 := ta_2
  have raw8_tb_0 := tb_0
  have raw8_tb_1 := tb_1
  have raw8_tb_2 := tb_2
  rw [hw8] at raw8_b_0 raw8_x_0 raw8_x_1 raw8_x_2 raw8_x_3 raw8_ta_0 raw8_ta_1 raw8_ta_2 raw8_tb_0 raw8_tb_1 raw8_tb_2
  go_wp2_with fail
  rw [← hw8]
  clear hw8
  clear old8_b_0 old8_x_0 old8_x_1 old8_x_2 old8_x_3 old8_ta_0 old8_ta_1 old8_ta_2 raw8_b_0 raw8_x_0 raw8_x_1 raw8_x_2 raw8_x_3 raw8_ta_0 raw8_ta_1 raw8_ta_2 raw8_tb_0 raw8_tb_1 raw8_tb_2
  go_loopw [5, 10] (fun v k wr => ∃ j : Nat, j ≤ 10 ∧ k = .int .i64 j ∧ Acc 3 O.int w2.heap.size w8.heap.size wr.heap.size wr v (missTo (colVals r1 n1) (colVals r2 n2) j) ∧ Turn w2.heap.size (w2.heap.size + 1) w8 wr) (fun _ k _ => 10 - (intOf k).toNat)
  case atStart => exact ⟨0, by omega, rfl, (ho _).wide (Nat.le_refl _) (by omega), turn_refl _ _ _⟩
  case round =>
    obtain ⟨j, hj, rfl, hacc, hdr⟩ := hrel
    have hlc := hdr
    obtain ⟨wo, rfl⟩ : ∃ W, W = wr := ⟨_, rfl⟩
    have s9 := hdr.size
    have hb9 := hb8.trans ((hdr.below (by omega)).mono (by omega))
    replace b_0 := (hdr.cell (p := ⟨w.heap.size, 0, none⟩) (by simp only []; omega) (by simp only []; omega)).trans b_0
    replace x_0 := (hdr.cell (p := ⟨w.heap.size + 1, 0, none⟩) (by simp only []; omega) (by simp only []; omega)).trans x_0
    replace x_1 := (hdr.cell (p := ⟨w.heap.size + 1, 1, none⟩) (by simp only []; omega) (by simp only []; omega)).trans x_1
    replace x_2 := (hdr.cell (p := ⟨w.heap.size + 1, 2, none⟩) (by simp only []; omega) (by simp only []; omega)).trans x_2
    replace x_3 := (hdr.cell (p := ⟨w.heap.size + 1, 3, none⟩) (by simp only []; omega) (by simp only []; omega)).trans x_3
    replace ht1 := ht1.turn hdr (by omega)
    replace ta_0 := (hdr.cell (p := ⟨wB.heap.size, 0, none⟩) (by simp only []; omega) (by simp only []; omega)).trans ta_0
    replace ta_1 := (hdr.cell (p := ⟨wB.heap.size, 1, none⟩) (by simp only []; omega) (by simp only []; omega)).trans ta_1
    replace ta_2 := (hdr.cell (p := ⟨wB.heap.size, 2, none⟩) (by simp only []; omega) (by simp only []; omega)).trans ta_2
    replace ht2 := ht2.turn hdr (by omega)
    replace tb_0 := (hdr.cell (p := ⟨wC.heap.size, 0, none⟩) (by simp only []; omega) (by simp only []; omega)).trans tb_0
    replace tb_1 := (hdr.cell (p := ⟨wC.heap.size, 1, none⟩) (by simp only []; omega) (by simp only []; omega)).trans tb_1
    replace tb_2 := (hdr.cell (p := ⟨wC.heap.size, 2, none⟩) (by simp only []; omega) (by simp only []; omega)).trans tb_2
    have t1 := ownT_rows ht1
    have t2 := ownT_rows ht2
    have hT1 : Below wo.heap.size wo wo := Below.refl _ _
    have hT2 : Below wo.heap.size wo wo := Below.refl _ _
    have hml := missTo_len (colVals r1 n1) (colVals r2 n2) j
    by_cases hlt : j < 10
    · have hjj : (j : Int) ≤ 9 := by omega
      have hjd : decide ((j : Int) ≤ 9) = true := decide_eq_true hjj
      go_wp2_with fail
      go_loopw [11, 13] (fun s k wr => ∃ (q : Nat) (b : Bool), q ≤ vn ∧ s = .bool b ∧ k = .int .i64 q ∧ Hid (b = has (colVals (r1.take q) n1) (j : Int)) ∧ Drew wo wr) (fun _ k _ => vn - (intOf k).toNat)
      case atStart => exact ⟨0, false, Nat.zero_le _, rfl, rfl, Lib.hid (by simp [colVals, has]), Drew.refl _⟩
      case round =>
        obtain ⟨q, b, hq, rfl, rfl, hbq, hdr⟩ := hrel
        have hld11 := hdr
        replace hdr : Below wo.heap.size wo wr := hdr.below _
        have s10 := hdr.size
        have hb10 := on hb9 hdr
        replace b_0 := (hdr.cell (p := ⟨w.heap.size, 0, none⟩) (by simp only []; omega)).trans b_0
        replace x_0 := (hdr.cell (p := ⟨w.heap.size + 1, 0, none⟩) (by simp only []; omega)).trans x_0
        replace x_1 := (hdr.cell (p := ⟨w.heap.size + 1, 1, none⟩) (by simp only []; omega)).trans x_1
        replace x_2 := (hdr.cell (p := ⟨w.heap.size + 1, 2, none⟩) (by simp only []; omega)).trans x_2
        replace x_3 := (hdr.cell (p := ⟨w.heap.size + 1, 3, none⟩) (by simp only []; omega)).trans x_3
        replace ta_0 := (hdr.cell (p := ⟨wB.heap.size, 0, none⟩) (by simp only []; omega)).trans ta_0
        replace ta_1 := (hdr.cell (p := ⟨wB.heap.size, 1, none⟩) (by simp only []; omega)).trans ta_1
        replace ta_2 := (hdr.cell (p := ⟨wB.heap.size, 2, none⟩) (by simp only []; omega)).trans ta_2
        replace tb_0 := (hdr.cell (p := ⟨wC.heap.size, 0, none⟩) (by simp only []; omega)).trans tb_0
        replace tb_1 := (hdr.cell (p := ⟨wC.heap.size, 1, none⟩) (by simp only []; omega)).trans tb_1
        replace tb_2 := (hdr.cell (p := ⟨wC.heap.size, 2, none⟩) (by simp only []; omega)).trans tb_2
        replace hT1 := on hT1 hdr
        replace hT2 := on hT2 hdr
        replace hacc := hacc.below hdr (by omega)
        replace hlc := hlc.trans (turn_below hdr (Nat.le_refl _))
        by_cases hltq : q < vn
        · obtain ⟨b1, o1, yb, yn, yc, y, rfl, hcy, hy, iy, _⟩ := t1.row hltq
          have hyA := (HR1.out y (List.mem_of_getElem? hy.out)).1
          have hyl := iy.len
          have hbt1 : b1 < wo.heap.size := cell_lt hcy
          have y0 : wr.cell? ⟨b1, o1 + q, none⟩ = some (.slice yb yn yc) := (hT1.cell (p := ⟨b1, o1 + q, none⟩) hbt1).trans hcy
          obtain ⟨yb1, yo1, yv, hye, hcyv, hyv, hyv1, hyv2⟩ := iy.get (show n1 < yn by omega)
          subst hye
          have hbt2 : yb1 < wo.heap.size := cell_lt hcyv
          have yv0 : wr.cell? ⟨yb1, yo1 + n1, none⟩ = some (.int .i64 yv) := (hT1.cell (p := ⟨yb1, yo1 + n1, none⟩) hbt2).trans hcyv
          have hyn : n1 < yn := by omega
          have HS := Lib.hid (colVals_step (c := n1) hy.out hyv.out)
          clear hcy hcyv iy t1 hyA hyl
          cases b with
          | true =>
            have HN : Hid (true = has (colVals (r1.take (q + 1)) n1) (j : Int)) := Lib.hid (by rw [HS.out, has_snoc_yes hbq.out.symm])
            go_wp2_with fail
            go_quiet (fail)
            go_wp2_with fail
            go_roundw
            case rel => exact ⟨q + 1, true, by omega, rfl, by go_num, HN.out, hld11.step _⟩
            case measure => simp [intOf]; omega
          | false =>
            have HN : Hid (decide (yv = (j : Int)) = has (colVals (r1.take (q + 1)) n1) (j : Int)) := Lib.hid (by rw [HS.out, has_snoc_no hbq.out.symm])
            by_cases hyj : yv = (j : Int)
            · have hd : (yv == (j : Int)) = true := by rw [beq_iff_eq]; exact hyj
              rw [decide_eq_true hyj] at HN
              clear hyj
              go_wp2_with fail
              go_quiet (fail)
              go_wp2_with fail
              go_roundw
              case rel => exact ⟨q + 1, true, by omega, rfl, by go_num, HN.out, hld11.step _⟩
              case measure => simp [intOf]; omega
            · have hd : (yv == (j : Int)) = false := by rw [beq_eq_false_iff_ne]; exact hyj
              rw [decide_eq_false hyj] at HN
              clear hyj
              go_wp2_with fail
              go_quiet (fail)
              go_wp2_with fail
              go_roundw
              case rel => exact ⟨q + 1, false, by omega, rfl, by go_num, HN.out, hld11.step _⟩
              case measure => simp [intOf]; omega
        · have HB11 : Hid (b = has (colVals r1 n1) (j : Int)) := Lib.hid (by rw [hbq.out, List.take_of_length_le (by omega)])
          clear hbq
          obtain ⟨b11, rfl⟩ : ∃ b9, b9 = b := ⟨_, rfl⟩
          obtain ⟨wj, rfl⟩ : ∃ W, W = wr := ⟨_, rfl⟩
          go_wp2_with fail
          go_loopw [12, 14] (fun s k wr => ∃ (q : Nat) (b : Bool), q ≤ un2 ∧ s = .bool b ∧ k = .int .i64 q ∧ Hid (b = has (colVals (r2.take q) n2) (j : Int)) ∧ Drew wj wr) (fun _ k _ => un2 - (intOf k).toNat)
          case atStart => exact ⟨0, false, Nat.zero_le _, rfl, rfl, Lib.hid (by simp [colVals, has]), Drew.refl _⟩
          case round =>
            obtain ⟨q, b, hq, rfl, rfl, hbq, hdr⟩ := hrel
            have hld12 := hdr
            replace hdr : Below wj.heap.size wj wr := hdr.below _
            have s11 := hdr.size
            have hb11 := on hb10 hdr
            replace b_0 := (hdr.cell (p := ⟨w.heap.size, 0, none⟩) (by simp only []; omega)).trans b_0
            replace x_0 := (hdr.cell (p := ⟨w.heap.size + 1, 0, none⟩) (by simp only []; omega)).trans x_0
            replace x_1 := (hdr.cell (p := ⟨w.heap.size + 1, 1, none⟩) (by simp only []; omega)).trans x_1
            replace x_2 := (hdr.cell (p := ⟨w.heap.size + 1, 2, none⟩) (by simp only []; omega)).trans x_2
            replace x_3 := (hdr.cell (p := ⟨w.heap.size + 1, 3, none⟩) (by simp only []; omega)).trans x_3
            replace ta_0 := (hdr.cell (p := ⟨wB.heap.size, 0, none⟩) (by simp only []; omega)).trans ta_0
            replace ta_1 := (hdr.cell (p := ⟨wB.heap.size, 1, none⟩) (by simp only []; omega)).trans ta_1
            replace ta_2 := (hdr.cell (p := ⟨wB.heap.size, 2, none⟩) (by simp only []; omega)).trans ta_2
            replace tb_0 := (hdr.cell (p := ⟨wC.heap.size, 0, none⟩) (by simp only []; omega)).trans tb_0
            replace tb_1 := (hdr.cell (p := ⟨wC.heap.size, 1, none⟩) (by simp only []; omega)).trans tb_1
            replace tb_2 := (hdr.cell (p := ⟨wC.heap.size, 2, none⟩) (by simp only []; omega)).trans tb_2
            replace hT1 := on hT1 hdr
            replace hT2 := on hT2 hdr
            replace hacc := hacc.below hdr (by omega)
            replace hlc := hlc.trans (turn_below hdr (Nat.le_refl _))
            by_cases hltq : q < un2
            · obtain ⟨b1, o1, yb, yn, yc, y, rfl, hcy, hy, iy, _⟩ := t2.row hltq
              have hyA := (HR2.out y (List.mem_of_getElem? hy.out)).1
              have hyl := iy.len
              have hbt1 : b1 < wo.heap.size := cell_lt hcy
              have y0 : wr.cell? ⟨b1, o1 + q, none⟩ = some (.slice yb yn yc) := (hT2.cell (p := ⟨b1, o1 + q, none⟩) hbt1).trans hcy
              obtain ⟨yb1, yo1, yv, hye, hcyv, hyv, hyv1, hyv2⟩ := iy.get (show n2 < yn by omega)
              subst hye
              have hbt2 : yb1 < wo.heap.size := cell_lt hcyv
              have yv0 : wr.cell? ⟨yb1, yo1 + n2, none⟩ = some (.int .i64 yv) := (hT2.cell (p := ⟨yb1, yo1 + n2, none⟩) hbt2).trans hcyv
              have hyn : n2 < yn := by omega
              have HS := Lib.hid (colVals_step (c := n2) hy.out hyv.out)
              clear hcy hcyv iy t2 hyA hyl
              cases b with
              | true =>
                have HN : Hid (true = has (colVals (r2.take (q + 1)) n2) (j : Int)) := Lib.hid (by rw [HS.out, has_snoc_yes hbq.out.symm])
                go_wp2_with fail
                go_quiet (fail)
                go_wp2_with fail
                go_roundw
                case rel => exact ⟨q + 1, true, by omega, rfl, by go_num, HN.out, hld12.step _⟩
                case measure => simp [intOf]; omega
              | false =>
                have HN : Hid (decide (yv = (j : Int)) = has (colVals (r2.take (q + 1)) n2) (j : Int)) := Lib.hid (by rw [HS.out, has_snoc_no hbq.out.symm])
                by_cases hyj : yv = (j : Int)
                · have hd : (yv == (j : Int)) = true := by rw [beq_iff_eq]; exact hyj
                  rw [decide_eq_true hyj] at HN
                  clear hyj
                  go_wp2_with fail
                  go_quiet (fail)
                  go_wp2_with fail
                  go_roundw
                  case rel => exact ⟨q + 1, true, by omega, rfl, by go_num, HN.out, hld12.step _⟩
                  case measure => simp [intOf]; omega
                · have hd : (yv == (j : Int)) = false := by rw [beq_eq_false_iff_ne]; exact hyj
                  rw [decide_eq_false hyj] at HN
                  clear hyj
                  go_wp2_with fail
                  go_quiet (fail)
                  go_wp2_with fail
                  go_roundw
                  case rel => exact ⟨q + 1, false, by omega, rfl, by go_num, HN.out, hld12.step _⟩
                  case measure => simp [intOf]; omega
            · have HB12 : Hid (b = has (colVals r2 n2) (j : Int)) := Lib.hid (by rw [hbq.out, List.take_of_length_le (by omega)])
              clear hbq
              cases b11 with
              | true =>
                cases b with
                | false =>
                  have HS := Lib.hid (missTo_yes HB11.out.symm HB12.out.symm)
                  go_wp2_with ((at_builtin; refine wpList_accI _ _ _ _ _ hacc hlc rfl (by omega) (by omega) ⟨by omega, by omega⟩ (by omega) rfl rfl rfl rfl rfl ?_; intro v' wD hacc' ht' hsz'))
                  rw [← HS.out] at hacc'
                  go_roundw
                  case rel => exact ⟨j + 1, by omega, by go_num, hacc', ht'⟩
                  case measure => simp [intOf]; omega
                | true =>
                  rw [← missTo_no (show (has (colVals r1 n1) (j : Int) && !has (colVals r2 n2) (j : Int)) = false by rw [← HB11.out, ← HB12.out]; rfl)] at hacc
                  have HA := Lib.hid hacc
                  clear hacc
                  go_wp2_with fail
                  go_roundw
                  case rel => exact ⟨j + 1, by omega, by go_num, HA.out.wide (Nat.le_refl _) (by omega), hlc⟩
                  case measure => simp [intOf]; omega
              | false =>
                rw [← missTo_no (show (has (colVals r1 n1) (j : Int) && !has (colVals r2 n2) (j : Int)) = false by rw [← HB11.out]; rfl)] at hacc
                have HA := Lib.hid hacc
                clear hacc
                go_wp2_with fail
                go_roundw
                case rel => exact ⟨j + 1, by omega, by go_num, HA.out.wide (Nat.le_refl _) (by omega), hlc⟩
                case measure => simp [intOf]; omega
    · have hj10 : j = 10 := by omega
      have hjd : decide ((j : Int) ≤ 9) = false := decide_eq_false (by omega)
      have hjn : ¬ (j : Int) ≤ 9 := by omega
      rw [hj10, ← HE.out] at hacc
      obtain ⟨a', n', cap2, rfl⟩ := hacc.form3
      have HO := Lib.hid (hacc.own (B := w.heap.size) (by omega) (by omega) (Nat.le_refl _))
      clear hacc t1 t2 hj10
      go_wp2_with fail
      go_ret
      exact ⟨_, rfl, HO.out, hb9⟩

/-- Whether an inclusion holds. -/
def holdsIn (db : DDb) (x : DIn) : Bool := validIn db x && decide ((missing db x).length = 0)

set_option maxHeartbeats 1000000 in
theorem holdsIn_impl (cs ds : List Value) (db : DDb) (x : DIn) (w : World) (h : rDb.rep w cs db) (h' : rIn.rep w ds x) :
    Calls Try.prog 76 #[.agg cs.toArray, .agg ds.toArray] w fun e w' => e = .returned (.bool (holdsIn db x)) ∧ Below w.heap.size w w' := by
  obtain ⟨ub, un, uc, rfl⟩ := rDb_form h
  obtain rfl := rIn_form h'
  have HCV := Lib.hid (fun W (hW : Below w.heap.size w W) => validIn_impl _ _ db x W (rDb.mono h hW) (rIn.mono h' hW))
  have HCK := Lib.hid (fun W (hW : Below w.heap.size w W) => missing_impl _ _ db x W (rDb.mono h hW) (rIn.mono h' hW))
  obtain ⟨m1, c1, m2, c2⟩ := x
  have HV : Hid (holdsIn db (m1, c1, m2, c2) = (validIn db (m1, c1, m2, c2) && decide ((missing db (m1, c1, m2, c2)).length = 0))) := rfl
  obtain ⟨p, hp⟩ : ∃ p, validIn db (m1, c1, m2, c2) = p := ⟨_, rfl⟩
  obtain ⟨l, hl⟩ : ∃ l, missing db (m1, c1, m2, c2) = l := ⟨_, rfl⟩
  rw [hp, hl] at HV
  rw [hp] at HCV
  simp only [hl] at HCK
  clear hp hl h h'
  have hb0 : Below w.heap.size w w := Below.refl _ _
  go_enter Try.func76, Try.ntmps76
  obtain ⟨w1, hw1⟩ : ∃ W, W = w.alloc (.cells #[.slice ub un uc] 89) := ⟨_, rfl⟩
  have z1 : Below w.heap.size w w1 := by rw [hw1]; exact (Below.refl _ _).alloc (Nat.le_refl _) _
  have s1 : w1.heap.size = w.heap.size + 1 := by rw [hw1]; simp
  have hb1 := on hb0 z1
  have b_0 : w1.cell? ⟨w.heap.size, 0, none⟩ = some (.slice ub un uc) := by rw [hw1]; exact box_cell (Below.refl _ _) rfl
  have raw1_b_0 := b_0
  rw [hw1] at raw1_b_0
  obtain ⟨w2, hw2⟩ : ∃ W, W = w1.alloc (.cells #[.string m1, .int .i64 c1, .string m2, .int .i64 c2] 91) := ⟨_, rfl⟩
  have z2 : Below w1.heap.size w1 w2 := by rw [hw2]; exact (Below.refl _ _).alloc (Nat.le_refl _) _
  have s2 : w2.heap.size = w1.heap.size + 1 := by rw [hw2]; simp
  have hb2 := on hb1 z2
  replace b_0 := (z2.cell (p := ⟨w.heap.size, 0, none⟩) (by simp only []; omega)).trans b_0
  have e2 : w1.heap.size = w.heap.size + 1 := by omega
  have x_0 : w2.cell? ⟨w1.heap.size, 0, none⟩ = some (.string m1) := by rw [hw2]; exact box_cell (Below.refl _ _) rfl
  have x_1 : w2.cell? ⟨w1.heap.size, 1, none⟩ = some (.int .i64 c1) := by rw [hw2]; exact box_cell (Below.refl _ _) rfl
  have x_2 : w2.cell? ⟨w1.heap.size, 2, none⟩ = some (.string m2) := by rw [hw2]; exact box_cell (Below.refl _ _) rfl
  have x_3 : w2.cell? ⟨w1.heap.size, 3, none⟩ = some (.int .i64 c2) := by rw [hw2]; exact box_cell (Below.refl _ _) rfl
  rw [e2] at x_0 x_1 x_2 x_3
  have raw2_b_0 := b_0
  have raw2_x_0 := x_0
  have raw2_x_1 := x_1
  have raw2_x_2 := x_2
  have raw2_x_3 := x_3
  rw [hw2, hw1] at raw2_b_0 raw2_x_0 raw2_x_1 raw2_x_2 raw2_x_3
  go_wp2_with fail
  rw [← hw1]
  rw [← hw2]
  clear hw2 hw1
  clear raw1_b_0 raw2_b_0 raw2_x_0 raw2_x_1 raw2_x_2 raw2_x_3
  refine (HCV.out _ hb2).mono ?_
  rintro e w9 ⟨rfl, z9⟩
  have s3 := z9.size
  have hb3 := on hb2 z9
  replace b_0 := (z9.cell (p := ⟨w.heap.size, 0, none⟩) (by simp only []; omega)).trans b_0
  replace x_0 := (z9.cell (p := ⟨w.heap.size + 1, 0, none⟩) (by simp only []; omega)).trans x_0
  replace x_1 := (z9.cell (p := ⟨w.heap.size + 1, 1, none⟩) (by simp only []; omega)).trans x_1
  replace x_2 := (z9.cell (p := ⟨w.heap.size + 1, 2, none⟩) (by simp only []; omega)).trans x_2
  replace x_3 := (z9.cell (p := ⟨w.heap.size + 1, 3, none⟩) (by simp only []; omega)).trans x_3
  cases p with
  | false =>
    go_wp2_with fail
    go_wp2_with fail
    go_ret
    exact ⟨ret_bool (by rw [HV.out]; rfl), hb3⟩
  | true =>
    go_wp2_with fail
    refine (HCK.out _ hb3).mono ?_
    rintro e w10 ⟨u, rfl, ho, z10⟩
    obtain ⟨vb, vn, vc, rfl⟩ := oI_form1 ho
    have hln := (rI_ints (ho.rd reads_I)).len
    have s4 := z10.size
    have hb4 := on hb3 z10
    replace b_0 := (z10.cell (p := ⟨w.heap.size, 0, none⟩) (by simp only []; omega)).trans b_0
    replace x_0 := (z10.cell (p := ⟨w.heap.size + 1, 0, none⟩) (by simp only []; omega)).trans x_0
    replace x_1 := (z10.cell (p := ⟨w.heap.size + 1, 1, none⟩) (by simp only []; omega)).trans x_1
    replace x_2 := (z10.cell (p := ⟨w.heap.size + 1, 2, none⟩) (by simp only []; omega)).trans x_2
    replace x_3 := (z10.cell (p := ⟨w.heap.size + 1, 3, none⟩) (by simp only []; omega)).trans x_3
    clear ho
    by_cases h0 : vn = 0
    · subst h0
      have HE := Lib.hid (show holdsIn db (m1, c1, m2, c2) = true by rw [HV.out, hln]; rfl)
      go_wp2_with fail
      go_wp2_with fail
      go_ret
      exact ⟨ret_bool HE.out.symm, hb4⟩
    · have HE := Lib.hid (show holdsIn db (m1, c1, m2, c2) = false by rw [HV.out, hln]; simp [h0])
      have hd : ((vn : Int) == 0) = false := by rw [beq_eq_false_iff_ne]; omega
      go_wp2_with fail
      go_wp2_with fail
      go_ret
      exact ⟨ret_bool HE.out.symm, hb4⟩

set_option maxHeartbeats 1000000 in
theorem holdsIn_spec (cs ds : List Value) (db : DDb) (x : DIn) (w : World) (h : rDb.rep w cs db) (h' : rIn.rep w ds x) :
    Calls Try.prog 73 #[.agg cs.toArray, .agg ds.toArray] w fun e w' => e = .returned (.bool (holdsIn db x)) ∧ Below w.heap.size w w' := by
  obtain ⟨ub, un, uc, rfl⟩ := rDb_form h
  obtain rfl := rIn_form h'
  have HCV := Lib.hid (fun W (hW : Below w.heap.size w W) => validIn_spec _ _ db x W (rDb.mono h hW) (rIn.mono h' hW))
  have HCK := Lib.hid (fun W (hW : Below w.heap.size w W) => missing_spec _ _ db x W (rDb.mono h hW) (rIn.mono h' hW))
  obtain ⟨m1, c1, m2, c2⟩ := x
  have HV : Hid (holdsIn db (m1, c1, m2, c2) = (validIn db (m1, c1, m2, c2) && decide ((missing db (m1, c1, m2, c2)).length = 0))) := rfl
  obtain ⟨p, hp⟩ : ∃ p, validIn db (m1, c1, m2, c2) = p := ⟨_, rfl⟩
  obtain ⟨l, hl⟩ : ∃ l, missing db (m1, c1, m2, c2) = l := ⟨_, rfl⟩
  rw [hp, hl] at HV
  rw [hp] at HCV
  simp only [hl] at HCK
  clear hp hl h h'
  have hb0 : Below w.heap.size w w := Below.refl _ _
  go_enter Try.func73, Try.ntmps73
  obtain ⟨w1, hw1⟩ : ∃ W, W = w.alloc (.cells #[.slice ub un uc] 89) := ⟨_, rfl⟩
  have z1 : Below w.heap.size w w1 := by rw [hw1]; exact (Below.refl _ _).alloc (Nat.le_refl _) _
  have s1 : w1.heap.size = w.heap.size + 1 := by rw [hw1]; simp
  have hb1 := on hb0 z1
  have b_0 : w1.cell? ⟨w.heap.size, 0, none⟩ = some (.slice ub un uc) := by rw [hw1]; exact box_cell (Below.refl _ _) rfl
  have raw1_b_0 := b_0
  rw [hw1] at raw1_b_0
  obtain ⟨w2, hw2⟩ : ∃ W, W = w1.alloc (.cells #[.string m1, .int .i64 c1, .string m2, .int .i64 c2] 91) := ⟨_, rfl⟩
  have z2 : Below w1.heap.size w1 w2 := by rw [hw2]; exact (Below.refl _ _).alloc (Nat.le_refl _) _
  have s2 : w2.heap.size = w1.heap.size + 1 := by rw [hw2]; simp
  have hb2 := on hb1 z2
  replace b_0 := (z2.cell (p := ⟨w.heap.size, 0, none⟩) (by simp only []; omega)).trans b_0
  have e2 : w1.heap.size = w.heap.size + 1 := by omega
  have x_0 : w2.cell? ⟨w1.heap.size, 0, none⟩ = some (.string m1) := by rw [hw2]; exact box_cell (Below.refl _ _) rfl
  have x_1 : w2.cell? ⟨w1.heap.size, 1, none⟩ = some (.int .i64 c1) := by rw [hw2]; exact box_cell (Below.refl _ _) rfl
  have x_2 : w2.cell? ⟨w1.heap.size, 2, none⟩ = some (.string m2) := by rw [hw2]; exact box_cell (Below.refl _ _) rfl
  have x_3 : w2.cell? ⟨w1.heap.size, 3, none⟩ = some (.int .i64 c2) := by rw [hw2]; exact box_cell (Below.refl _ _) rfl
  rw [e2] at x_0 x_1 x_2 x_3
  have raw2_b_0 := b_0
  have raw2_x_0 := x_0
  have raw2_x_1 := x_1
  have raw2_x_2 := x_2
  have raw2_x_3 := x_3
  rw [hw2, hw1] at raw2_b_0 raw2_x_0 raw2_x_1 raw2_x_2 raw2_x_3
  go_wp2_with fail
  rw [← hw1]
  rw [← hw2]
  clear hw2 hw1
  clear raw1_b_0 raw2_b_0 raw2_x_0 raw2_x_1 raw2_x_2 raw2_x_3
  refine (HCV.out _ hb2).mono ?_
  rintro e w9 ⟨rfl, z9⟩
  have s3 := z9.size
  have hb3 := on hb2 z9
  replace b_0 := (z9.cell (p := ⟨w.heap.size, 0, none⟩) (by simp only []; omega)).trans b_0
  replace x_0 := (z9.cell (p := ⟨w.heap.size + 1, 0, none⟩) (by simp only []; omega)).trans x_0
  replace x_1 := (z9.cell (p := ⟨w.heap.size + 1, 1, none⟩) (by simp only []; omega)).trans x_1
  replace x_2 := (z9.cell (p := ⟨w.heap.size + 1, 2, none⟩) (by simp only []; omega)).trans x_2
  replace x_3 := (z9.cell (p := ⟨w.heap.size + 1, 3, none⟩) (by simp only []; omega)).trans x_3
  cases p with
  | false =>
    go_wp2_with fail
    go_wp2_with fail
    go_ret
    exact ⟨ret_bool (by rw [HV.out]; rfl), hb3⟩
  | true =>
    go_wp2_with fail
    refine (HCK.out _ hb3).mono ?_
    rintro e w10 ⟨u, rfl, ho, z10⟩
    obtain ⟨vb, vn, vc, rfl⟩ := oI_form1 ho
    have hln := (rI_ints (ho.rd reads_I)).len
    have s4 := z10.size
    have hb4 := on hb3 z10
    replace b_0 := (z10.cell (p := ⟨w.heap.size, 0, none⟩) (by simp only []; omega)).trans b_0
    replace x_0 := (z10.cell (p := ⟨w.heap.size + 1, 0, none⟩) (by simp only []; omega)).trans x_0
    replace x_1 := (z10.cell (p := ⟨w.heap.size + 1, 1, none⟩) (by simp only []; omega)).trans x_1
    replace x_2 := (z10.cell (p := ⟨w.heap.size + 1, 2, none⟩) (by simp only []; omega)).trans x_2
    replace x_3 := (z10.cell (p := ⟨w.heap.size + 1, 3, none⟩) (by simp only []; omega)).trans x_3
    clear ho
    by_cases h0 : vn = 0
    · subst h0
      have HE := Lib.hid (show holdsIn db (m1, c1, m2, c2) = true by rw [HV.out, hln]; rfl)
      go_wp2_with fail
      go_wp2_with fail
      go_ret
      exact ⟨ret_bool HE.out.symm, hb4⟩
    · have HE := Lib.hid (show holdsIn db (m1, c1, m2, c2) = false by rw [HV.out, hln]; simp [h0])
      have hd : ((vn : Int) == 0) = false := by rw [beq_eq_false_iff_ne]; omega
      go_wp2_with fail
      go_wp2_with fail
      go_ret
      exact ⟨ret_bool HE.out.symm, hb4⟩

end Go.Proofs.Ytbkoddikfpkocaa

/- The walk of the law MissingValues. Written by a program. -/
namespace Go.Proofs.Ytbkoddikfpkocaa
open Go.RowKit
set_option linter.unusedVariables false
set_option linter.unusedSimpArgs false
set_option synthInstance.maxSize 2000
set_option synthInstance.maxHeartbeats 400000

set_option maxHeartbeats 4000000 in
set_option maxRecDepth 100000 in
theorem walk_FnExactMissingValues (v0 : Value) (v1 : Value) (w : World) (h0 : kDb_in w v0) (h1 : kIn_in w v1) :
    Calls Try.prog 9 #[v0, v1] w fun e w' => e = .returned (.bool true) ∧ Below w.heap.size w w' := by
  obtain ⟨c0, x0, rfl, h0⟩ := h0
  obtain ⟨bu0, nu0, cu0, rfl⟩ := rDb_form h0
  obtain ⟨c1, x1, rfl, h1⟩ := h1
  obtain ⟨rfl⟩ := rIn_form h1
  have hb0 : Below w.heap.size w w := Below.refl _ _
  go_enter Try.func9, Try.ntmps9
  obtain ⟨w1, hw1⟩ : ∃ W, W = w.alloc (.cells #[.slice bu0 nu0 cu0] 81) := ⟨_, rfl⟩
  have z1 : Below w.heap.size w w1 := by rw [hw1]; exact (Below.refl _ _).alloc (Nat.le_refl _) _
  have s1 : w1.heap.size = w.heap.size + 1 := by rw [hw1]; simp
  have hb1 := on hb0 z1
  have bp0_0 : w1.cell? ⟨w.heap.size, 0, none⟩ = some (.slice bu0 nu0 cu0) := by rw [hw1]; exact box_cell (Below.refl _ _) rfl
  obtain ⟨w2, hw2⟩ : ∃ W, W = w1.alloc (.cells #[.string x1.1, .int .i64 x1.2.1, .string x1.2.2.1, .int .i64 x1.2.2.2] 83) := ⟨_, rfl⟩
  have z2 : Below w1.heap.size w1 w2 := by rw [hw2]; exact (Below.refl _ _).alloc (Nat.le_refl _) _
  have s2 : w2.heap.size = w1.heap.size + 1 := by rw [hw2]; simp
  have hb2 := on hb1 z2
  replace bp0_0 := (z2.cell (p := ⟨w.heap.size, 0, none⟩) (by simp only []; omega)).trans bp0_0
  have bp1_0 : w2.cell? ⟨w1.heap.size, 0, none⟩ = some (.string x1.1) := by rw [hw2]; exact box_cell (Below.refl _ _) rfl
  have bp1_1 : w2.cell? ⟨w1.heap.size, 1, none⟩ = some (.int .i64 x1.2.1) := by rw [hw2]; exact box_cell (Below.refl _ _) rfl
  have bp1_2 : w2.cell? ⟨w1.heap.size, 2, none⟩ = some (.string x1.2.2.1) := by rw [hw2]; exact box_cell (Below.refl _ _) rfl
  have bp1_3 : w2.cell? ⟨w1.heap.size, 3, none⟩ = some (.int .i64 x1.2.2.2) := by rw [hw2]; exact box_cell (Below.refl _ _) rfl
  have e2 : w1.heap.size = w.heap.size + 1 := by omega
  rw [e2] at bp1_0 bp1_1 bp1_2 bp1_3
  go_wp2_with fail
  rw [← hw1]
  clear hw1
  rw [← hw2]
  clear hw2
  refine (sz_Db _ x0 (1048576) _ (rDb.mono h0 hb2) (by omega) (by omega)).mono ?_
  rintro e w3 ⟨rfl, z3⟩
  have s3 := z3.size
  have hb3 := on hb2 z3
  replace bp0_0 := (z3.cell (p := ⟨w.heap.size, 0, none⟩) (by simp only []; omega)).trans bp0_0
  replace bp1_0 := (z3.cell (p := ⟨w.heap.size + 1, 0, none⟩) (by simp only []; omega)).trans bp1_0
  replace bp1_1 := (z3.cell (p := ⟨w.heap.size + 1, 1, none⟩) (by simp only []; omega)).trans bp1_1
  replace bp1_2 := (z3.cell (p := ⟨w.heap.size + 1, 2, none⟩) (by simp only []; omega)).trans bp1_2
  replace bp1_3 := (z3.cell (p := ⟨w.heap.size + 1, 3, none⟩) (by simp only []; omega)).trans bp1_3
  obtain ⟨q0, hq0⟩ : ∃ q, q = szR (1048576) (bulk_Db x0) := ⟨_, rfl⟩
  rw [← hq0]
  have hc0 := szR_cases (1048576) (bulk_Db x0)
  rw [← hq0] at hc0
  clear hq0
  rcases hc0 with ⟨rfl, _⟩ | ⟨hq0, hbk0⟩
  · go_wp2_with fail
    go_ret
    exact ⟨rfl, hb3⟩
  have hlo0 : 0 ≤ q0 ∧ q0 ≤ 1048576 := by omega
  have hbl0 : bulk_Db x0 ≤ 1048576 := by omega
  obtain ⟨hlo0, hlp0⟩ := hlo0
  have HQ0 := Lib.hid hq0
  clear hq0 hbk0
  go_wp2_with fail
  refine (sz_In _ x1 (q0) _ (rIn.mono h1 hb3) (by omega) (by omega)).mono ?_
  rintro e w4 ⟨rfl, z4⟩
  have s4 := z4.size
  have hb4 := on hb3 z4
  replace bp0_0 := (z4.cell (p := ⟨w.heap.size, 0, none⟩) (by simp only []; omega)).trans bp0_0
  replace bp1_0 := (z4.cell (p := ⟨w.heap.size + 1, 0, none⟩) (by simp only []; omega)).trans bp1_0
  replace bp1_1 := (z4.cell (p := ⟨w.heap.size + 1, 1, none⟩) (by simp only []; omega)).trans bp1_1
  replace bp1_2 := (z4.cell (p := ⟨w.heap.size + 1, 2, none⟩) (by simp only []; omega)).trans bp1_2
  replace bp1_3 := (z4.cell (p := ⟨w.heap.size + 1, 3, none⟩) (by simp only []; omega)).trans bp1_3
  obtain ⟨q1, hq1⟩ : ∃ q, q = szR (q0) (bulk_In x1) := ⟨_, rfl⟩
  rw [← hq1]
  have hc1 := szR_cases (q0) (bulk_In x1)
  rw [← hq1] at hc1
  clear hq1
  rcases hc1 with ⟨rfl, _⟩ | ⟨hq1, hbk1⟩
  · go_wp2_with fail
    go_ret
    exact ⟨rfl, hb4⟩
  have hlo1 : 0 ≤ q1 ∧ q1 ≤ 1048576 := by omega
  have hbl1 : bulk_In x1 ≤ 1048576 := by omega
  obtain ⟨hlo1, hlp1⟩ := hlo1
  have HQ1 := Lib.hid hq1
  clear hq1 hbk1
  go_wp2_with fail
  go_region_held3 (fun W => W.cell? ⟨w.heap.size, 0, none⟩ = some (.slice bu0 nu0 cu0) ∧ W.cell? ⟨w.heap.size + 1, 0, none⟩ = some (.string x1.1) ∧ W.cell? ⟨w.heap.size + 1, 1, none⟩ = some (.int .i64 x1.2.1) ∧ W.cell? ⟨w.heap.size + 1, 2, none⟩ = some (.string x1.2.2.1) ∧ W.cell? ⟨w.heap.size + 1, 3, none⟩ = some (.int .i64 x1.2.2.2)) (first | exact ⟨bp0_0, bp1_0, bp1_1, bp1_2, bp1_3⟩ | assumption) (first | (go_at_call 74; with_reducible (show Calls Try.prog 74 #[.agg #[.slice bu0 nu0 cu0]] _ _); refine (to_Db _ x0 _ (rDb.mono h0 hb4.drew) (by omega)).mono ?_; rintro e w5 ⟨ct0, rfl, t0, z5⟩; replace z5 : Below w4.heap.size w4 w5 := on (Below.refl _ _).drew z5; have sz5 := z5.size; obtain ⟨but0, nut0, cut0, rfl⟩ := oDb_form t0; have hS5 := (⟨(z5.cell (p := ⟨w.heap.size, 0, none⟩) (by simp only []; omega)).trans bp0_0, (z5.cell (p := ⟨w.heap.size + 1, 0, none⟩) (by simp only []; omega)).trans bp1_0, (z5.cell (p := ⟨w.heap.size + 1, 1, none⟩) (by simp only []; omega)).trans bp1_1, (z5.cell (p := ⟨w.heap.size + 1, 2, none⟩) (by simp only []; omega)).trans bp1_2, (z5.cell (p := ⟨w.heap.size + 1, 3, none⟩) (by simp only []; omega)).trans bp1_3⟩ : (fun W => W.cell? ⟨w.heap.size, 0, none⟩ = some (.slice bu0 nu0 cu0) ∧ W.cell? ⟨w.heap.size + 1, 0, none⟩ = some (.string x1.1) ∧ W.cell? ⟨w.heap.size + 1, 1, none⟩ = some (.int .i64 x1.2.1) ∧ W.cell? ⟨w.heap.size + 1, 2, none⟩ = some (.string x1.2.2.1) ∧ W.cell? ⟨w.heap.size + 1, 3, none⟩ = some (.int .i64 x1.2.2.2)) w5); have hx5 := on hb4 z5) | (go_at_call 75; with_reducible (show Calls Try.prog 75 #[.agg #[.string x1.1, .int .i64 x1.2.1, .string x1.2.2.1, .int .i64 x1.2.2.2]] _ _); refine (to_In _ x1 _ (rIn.mono h1 hx5)).mono ?_; rintro e w6 ⟨rfl, z6⟩; have sz6 := z6.size; replace t0 := t0.below z6 (by omega); have hS6 := (⟨(z6.cell (p := ⟨w.heap.size, 0, none⟩) (by simp only []; omega)).trans hS5.1, (z6.cell (p := ⟨w.heap.size + 1, 0, none⟩) (by simp only []; omega)).trans hS5.2.1, (z6.cell (p := ⟨w.heap.size + 1, 1, none⟩) (by simp only []; omega)).trans hS5.2.2.1, (z6.cell (p := ⟨w.heap.size + 1, 2, none⟩) (by simp only []; omega)).trans hS5.2.2.2.1, (z6.cell (p := ⟨w.heap.size + 1, 3, none⟩) (by simp only []; omega)).trans hS5.2.2.2.2⟩ : (fun W => W.cell? ⟨w.heap.size, 0, none⟩ = some (.slice bu0 nu0 cu0) ∧ W.cell? ⟨w.heap.size + 1, 0, none⟩ = some (.string x1.1) ∧ W.cell? ⟨w.heap.size + 1, 1, none⟩ = some (.int .i64 x1.2.1) ∧ W.cell? ⟨w.heap.size + 1, 2, none⟩ = some (.string x1.2.2.1) ∧ W.cell? ⟨w.heap.size + 1, 3, none⟩ = some (.int .i64 x1.2.2.2)) w6); have hx6 := on hx5 z6) | (go_at_call 78; refine (missing_spec _ _ x0 x1 _ (t0.rd reads_Db) (rIn.mono h1 hx6)).mono ?_; rintro e w7 ⟨cW0, rfl, W0, z7⟩; have sz7 := z7.size; replace t0 := t0.below z7 (by omega); have hS7 := (⟨(z7.cell (p := ⟨w.heap.size, 0, none⟩) (by simp only []; omega)).trans hS6.1, (z7.cell (p := ⟨w.heap.size + 1, 0, none⟩) (by simp only []; omega)).trans hS6.2.1, (z7.cell (p := ⟨w.heap.size + 1, 1, none⟩) (by simp only []; omega)).trans hS6.2.2.1, (z7.cell (p := ⟨w.heap.size + 1, 2, none⟩) (by simp only []; omega)).trans hS6.2.2.2.1, (z7.cell (p := ⟨w.heap.size + 1, 3, none⟩) (by simp only []; omega)).trans hS6.2.2.2.2⟩ : (fun W => W.cell? ⟨w.heap.size, 0, none⟩ = some (.slice bu0 nu0 cu0) ∧ W.cell? ⟨w.heap.size + 1, 0, none⟩ = some (.string x1.1) ∧ W.cell? ⟨w.heap.size + 1, 1, none⟩ = some (.int .i64 x1.2.1) ∧ W.cell? ⟨w.heap.size + 1, 2, none⟩ = some (.string x1.2.2.1) ∧ W.cell? ⟨w.heap.size + 1, 3, none⟩ = some (.int .i64 x1.2.2.2)) w7); have hx7 := on hx6 z7))
  replace z5 : Below w4.heap.size w4 w5 := z5
  replace z6 : Below w5.heap.size w5 w6 := z6
  replace z7 : Below w6.heap.size w6 w7 := z7
  clear hS5 hx5 hS6 hx6 hS7 hx7 t0
  have t5 := z5.size
  have hb5 := on hb4 z5
  replace bp0_0 := (z5.cell (p := ⟨w.heap.size, 0, none⟩) (by simp only []; omega)).trans bp0_0
  replace bp1_0 := (z5.cell (p := ⟨w.heap.size + 1, 0, none⟩) (by simp only []; omega)).trans bp1_0
  replace bp1_1 := (z5.cell (p := ⟨w.heap.size + 1, 1, none⟩) (by simp only []; omega)).trans bp1_1
  replace bp1_2 := (z5.cell (p := ⟨w.heap.size + 1, 2, none⟩) (by simp only []; omega)).trans bp1_2
  replace bp1_3 := (z5.cell (p := ⟨w.heap.size + 1, 3, none⟩) (by simp only []; omega)).trans bp1_3
  have t6 := z6.size
  have hb6 := on hb5 z6
  replace bp0_0 := (z6.cell (p := ⟨w.heap.size, 0, none⟩) (by simp only []; omega)).trans bp0_0
  replace bp1_0 := (z6.cell (p := ⟨w.heap.size + 1, 0, none⟩) (by simp only []; omega)).trans bp1_0
  replace bp1_1 := (z6.cell (p := ⟨w.heap.size + 1, 1, none⟩) (by simp only []; omega)).trans bp1_1
  replace bp1_2 := (z6.cell (p := ⟨w.heap.size + 1, 2, none⟩) (by simp only []; omega)).trans bp1_2
  replace bp1_3 := (z6.cell (p := ⟨w.heap.size + 1, 3, none⟩) (by simp only []; omega)).trans bp1_3
  have t7 := z7.size
  have hb7 := on hb6 z7
  replace bp0_0 := (z7.cell (p := ⟨w.heap.size, 0, none⟩) (by simp only []; omega)).trans bp0_0
  replace bp1_0 := (z7.cell (p := ⟨w.heap.size + 1, 0, none⟩) (by simp only []; omega)).trans bp1_0
  replace bp1_1 := (z7.cell (p := ⟨w.heap.size + 1, 1, none⟩) (by simp only []; omega)).trans bp1_1
  replace bp1_2 := (z7.cell (p := ⟨w.heap.size + 1, 2, none⟩) (by simp only []; omega)).trans bp1_2
  replace bp1_3 := (z7.cell (p := ⟨w.heap.size + 1, 3, none⟩) (by simp only []; omega)).trans bp1_3
  go_wp2_with fail
  refine (to_Db _ _ _ (rDb.mono h0 hb7) (by omega)).mono ?_
  rintro e w8 ⟨cy0, rfl, y0, z8⟩
  have s8 := z8.size
  have hb8 := on hb7 z8
  replace W0 := W0.below z8 (by omega)
  replace bp0_0 := (z8.cell (p := ⟨w.heap.size, 0, none⟩) (by simp only []; omega)).trans bp0_0
  replace bp1_0 := (z8.cell (p := ⟨w.heap.size + 1, 0, none⟩) (by simp only []; omega)).trans bp1_0
  replace bp1_1 := (z8.cell (p := ⟨w.heap.size + 1, 1, none⟩) (by simp only []; omega)).trans bp1_1
  replace bp1_2 := (z8.cell (p := ⟨w.heap.size + 1, 2, none⟩) (by simp only []; omega)).trans bp1_2
  replace bp1_3 := (z8.cell (p := ⟨w.heap.size + 1, 3, none⟩) (by simp only []; omega)).trans bp1_3
  obtain ⟨buy0, nuy0, cuy0, rfl⟩ := oDb_form y0
  obtain ⟨w9, hw9⟩ : ∃ W, W = w8.alloc (.cells #[.slice buy0 nuy0 cuy0] 89) := ⟨_, rfl⟩
  have z9 : Below w8.heap.size w8 w9 := by rw [hw9]; exact (Below.refl _ _).alloc (Nat.le_refl _) _
  have s9 : w9.heap.size = w8.heap.size + 1 := by rw [hw9]; simp
  have hb9 := on hb8 z9
  replace W0 := W0.below z9 (by omega)
  replace y0 := y0.below z9 (by omega)
  replace bp0_0 := (z9.cell (p := ⟨w.heap.size, 0, none⟩) (by simp only []; omega)).trans bp0_0
  replace bp1_0 := (z9.cell (p := ⟨w.heap.size + 1, 0, none⟩) (by simp only []; omega)).trans bp1_0
  replace bp1_1 := (z9.cell (p := ⟨w.heap.size + 1, 1, none⟩) (by simp only []; omega)).trans bp1_1
  replace bp1_2 := (z9.cell (p := ⟨w.heap.size + 1, 2, none⟩) (by simp only []; omega)).trans bp1_2
  replace bp1_3 := (z9.cell (p := ⟨w.heap.size + 1, 3, none⟩) (by simp only []; omega)).trans bp1_3
  have by0_0 : w9.cell? ⟨w8.heap.size, 0, none⟩ = some (.slice buy0 nuy0 cuy0) := by rw [hw9]; exact box_cell (Below.refl _ _) rfl
  have raw_bp0_0 := bp0_0
  rw [hw9] at raw_bp0_0
  have raw_bp1_0 := bp1_0
  rw [hw9] at raw_bp1_0
  have raw_bp1_1 := bp1_1
  rw [hw9] at raw_bp1_1
  have raw_bp1_2 := bp1_2
  rw [hw9] at raw_bp1_2
  have raw_bp1_3 := bp1_3
  rw [hw9] at raw_bp1_3
  have raw_by0_0 := by0_0
  rw [hw9] at raw_by0_0
  go_wp2_with fail
  rw [← hw9]
  clear hw9
  clear raw_bp0_0 raw_bp1_0 raw_bp1_1 raw_bp1_2 raw_bp1_3 raw_by0_0
  go_region_held3 (fun W => W.cell? ⟨w.heap.size, 0, none⟩ = some (.slice bu0 nu0 cu0) ∧ W.cell? ⟨w.heap.size + 1, 0, none⟩ = some (.string x1.1) ∧ W.cell? ⟨w.heap.size + 1, 1, none⟩ = some (.int .i64 x1.2.1) ∧ W.cell? ⟨w.heap.size + 1, 2, none⟩ = some (.string x1.2.2.1) ∧ W.cell? ⟨w.heap.size + 1, 3, none⟩ = some (.int .i64 x1.2.2.2) ∧ W.cell? ⟨w8.heap.size, 0, none⟩ = some (.slice buy0 nuy0 cuy0)) (first | exact ⟨bp0_0, bp1_0, bp1_1, bp1_2, bp1_3, by0_0⟩ | assumption) (first | (go_at_call 75; with_reducible (show Calls Try.prog 75 #[.agg #[.string x1.1, .int .i64 x1.2.1, .string x1.2.2.1, .int .i64 x1.2.2.2]] _ _); refine (to_In _ x1 _ (rIn.mono h1 hb9.drew)).mono ?_; rintro e w10 ⟨rfl, z10⟩; replace z10 : Below w9.heap.size w9 w10 := on (Below.refl _ _).drew z10; have sz10 := z10.size; have y0q := y0.below z10 (by omega); have hS10 := (⟨(z10.cell (p := ⟨w.heap.size, 0, none⟩) (by simp only []; omega)).trans bp0_0, (z10.cell (p := ⟨w.heap.size + 1, 0, none⟩) (by simp only []; omega)).trans bp1_0, (z10.cell (p := ⟨w.heap.size + 1, 1, none⟩) (by simp only []; omega)).trans bp1_1, (z10.cell (p := ⟨w.heap.size + 1, 2, none⟩) (by simp only []; omega)).trans bp1_2, (z10.cell (p := ⟨w.heap.size + 1, 3, none⟩) (by simp only []; omega)).trans bp1_3, (z10.cell (p := ⟨w8.heap.size, 0, none⟩) (by simp only []; omega)).trans by0_0⟩ : (fun W => W.cell? ⟨w.heap.size, 0, none⟩ = some (.slice bu0 nu0 cu0) ∧ W.cell? ⟨w.heap.size + 1, 0, none⟩ = some (.string x1.1) ∧ W.cell? ⟨w.heap.size + 1, 1, none⟩ = some (.int .i64 x1.2.1) ∧ W.cell? ⟨w.heap.size + 1, 2, none⟩ = some (.string x1.2.2.1) ∧ W.cell? ⟨w.heap.size + 1, 3, none⟩ = some (.int .i64 x1.2.2.2) ∧ W.cell? ⟨w8.heap.size, 0, none⟩ = some (.slice buy0 nuy0 cuy0)) w10); have hx10 := on hb9 z10) | (go_at_call 79; refine (missing_impl _ _ x0 x1 _ (y0q.rd reads_Db) (rIn.mono h1 hx10)).mono ?_; rintro e w11 ⟨cG0, rfl, G0, z11⟩; have sz11 := z11.size; replace y0q := y0q.below z11 (by omega); have hS11 := (⟨(z11.cell (p := ⟨w.heap.size, 0, none⟩) (by simp only []; omega)).trans hS10.1, (z11.cell (p := ⟨w.heap.size + 1, 0, none⟩) (by simp only []; omega)).trans hS10.2.1, (z11.cell (p := ⟨w.heap.size + 1, 1, none⟩) (by simp only []; omega)).trans hS10.2.2.1, (z11.cell (p := ⟨w.heap.size + 1, 2, none⟩) (by simp only []; omega)).trans hS10.2.2.2.1, (z11.cell (p := ⟨w.heap.size + 1, 3, none⟩) (by simp only []; omega)).trans hS10.2.2.2.2.1, (z11.cell (p := ⟨w8.heap.size, 0, none⟩) (by simp only []; omega)).trans hS10.2.2.2.2.2⟩ : (fun W => W.cell? ⟨w.heap.size, 0, none⟩ = some (.slice bu0 nu0 cu0) ∧ W.cell? ⟨w.heap.size + 1, 0, none⟩ = some (.string x1.1) ∧ W.cell? ⟨w.heap.size + 1, 1, none⟩ = some (.int .i64 x1.2.1) ∧ W.cell? ⟨w.heap.size + 1, 2, none⟩ = some (.string x1.2.2.1) ∧ W.cell? ⟨w.heap.size + 1, 3, none⟩ = some (.int .i64 x1.2.2.2) ∧ W.cell? ⟨w8.heap.size, 0, none⟩ = some (.slice buy0 nuy0 cuy0)) w11); have hx11 := on hx10 z11))
  replace z10 : Below w9.heap.size w9 w10 := z10
  replace z11 : Below w10.heap.size w10 w11 := z11
  clear hS10 hx10 hS11 hx11  y0q
  have t10 := z10.size
  have hb10 := on hb9 z10
  replace W0 := W0.below z10 (by omega)
  replace y0 := y0.below z10 (by omega)
  replace bp0_0 := (z10.cell (p := ⟨w.heap.size, 0, none⟩) (by simp only []; omega)).trans bp0_0
  replace bp1_0 := (z10.cell (p := ⟨w.heap.size + 1, 0, none⟩) (by simp only []; omega)).trans bp1_0
  replace bp1_1 := (z10.cell (p := ⟨w.heap.size + 1, 1, none⟩) (by simp only []; omega)).trans bp1_1
  replace bp1_2 := (z10.cell (p := ⟨w.heap.size + 1, 2, none⟩) (by simp only []; omega)).trans bp1_2
  replace bp1_3 := (z10.cell (p := ⟨w.heap.size + 1, 3, none⟩) (by simp only []; omega)).trans bp1_3
  replace by0_0 := (z10.cell (p := ⟨w8.heap.size, 0, none⟩) (by simp only []; omega)).trans by0_0
  have t11 := z11.size
  have hb11 := on hb10 z11
  replace W0 := W0.below z11 (by omega)
  replace y0 := y0.below z11 (by omega)
  replace bp0_0 := (z11.cell (p := ⟨w.heap.size, 0, none⟩) (by simp only []; omega)).trans bp0_0
  replace bp1_0 := (z11.cell (p := ⟨w.heap.size + 1, 0, none⟩) (by simp only []; omega)).trans bp1_0
  replace bp1_1 := (z11.cell (p := ⟨w.heap.size + 1, 1, none⟩) (by simp only []; omega)).trans bp1_1
  replace bp1_2 := (z11.cell (p := ⟨w.heap.size + 1, 2, none⟩) (by simp only []; omega)).trans bp1_2
  replace bp1_3 := (z11.cell (p := ⟨w.heap.size + 1, 3, none⟩) (by simp only []; omega)).trans bp1_3
  replace by0_0 := (z11.cell (p := ⟨w8.heap.size, 0, none⟩) (by simp only []; omega)).trans by0_0
  go_wp2_with fail
  refine (eq_I _ _ _ _ _ (G0.rd reads_I) (W0.rd reads_I)).mono ?_
  rintro e w12 ⟨rfl, z12⟩
  replace z12 : Below w11.heap.size w11 w12 := z12.below _
  have s12 := z12.size
  have hb12 := on hb11 z12
  replace W0 := W0.below z12 (by omega)
  replace y0 := y0.below z12 (by omega)
  replace G0 := G0.below z12 (by omega)
  replace bp0_0 := (z12.cell (p := ⟨w.heap.size, 0, none⟩) (by simp only []; omega)).trans bp0_0
  replace bp1_0 := (z12.cell (p := ⟨w.heap.size + 1, 0, none⟩) (by simp only []; omega)).trans bp1_0
  replace bp1_1 := (z12.cell (p := ⟨w.heap.size + 1, 1, none⟩) (by simp only []; omega)).trans bp1_1
  replace bp1_2 := (z12.cell (p := ⟨w.heap.size + 1, 2, none⟩) (by simp only []; omega)).trans bp1_2
  replace bp1_3 := (z12.cell (p := ⟨w.heap.size + 1, 3, none⟩) (by simp only []; omega)).trans bp1_3
  replace by0_0 := (z12.cell (p := ⟨w8.heap.size, 0, none⟩) (by simp only []; omega)).trans by0_0
  go_wp2_with fail
  go_region_held3 (fun W => W.cell? ⟨w8.heap.size, 0, none⟩ = some (.slice buy0 nuy0 cuy0) ∧ W.cell? ⟨w.heap.size, 0, none⟩ = some (.slice bu0 nu0 cu0)) (first | exact ⟨by0_0, bp0_0⟩ | assumption) (first | (go_at_call 74; refine (to_Db _ x0 _ (rDb.mono h0 hb12.drew) (by omega)).mono ?_; rintro e w13 ⟨du0, rfl, u0, z13⟩; replace z13 : Below w12.heap.size w12 w13 := (Below.refl _ _).drew.trans z13; have hS0 := (⟨(z13.cell (p := ⟨w8.heap.size, 0, none⟩) (by simp only []; omega)).trans by0_0, (z13.cell (p := ⟨w.heap.size, 0, none⟩) (by simp only []; omega)).trans bp0_0⟩ : (fun W => W.cell? ⟨w8.heap.size, 0, none⟩ = some (.slice buy0 nuy0 cuy0) ∧ W.cell? ⟨w.heap.size, 0, none⟩ = some (.slice bu0 nu0 cu0)) w13); obtain ⟨buu0, nuu0, cuu0, rfl⟩ := oDb_form u0; have y0' := y0.below z13 (by omega)) | (go_at_call 77; refine (eq_Db _ _ x0 x0 _ (y0'.rd reads_Db) (u0.rd reads_Db)).mono ?_; rintro e w14 ⟨rfl, z14⟩; have s13 := z13.size; have hT0 := (⟨(z14.cell (p := ⟨w8.heap.size, 0, none⟩) (by simp only []; omega)).trans hS0.1, (z14.cell (p := ⟨w.heap.size, 0, none⟩) (by simp only []; omega)).trans hS0.2⟩ : (fun W => W.cell? ⟨w8.heap.size, 0, none⟩ = some (.slice buy0 nuy0 cuy0) ∧ W.cell? ⟨w.heap.size, 0, none⟩ = some (.slice bu0 nu0 cu0)) w14)))
  replace z13 : Below w12.heap.size w12 w13 := z13
  clear u0 y0' hS0 hT0
  have t13 := z13.size
  have hb13 := on hb12 z13
  replace W0 := W0.below z13 (by omega)
  replace y0 := y0.below z13 (by omega)
  replace G0 := G0.below z13 (by omega)
  replace bp0_0 := (z13.cell (p := ⟨w.heap.size, 0, none⟩) (by simp only []; omega)).trans bp0_0
  replace bp1_0 := (z13.cell (p := ⟨w.heap.size + 1, 0, none⟩) (by simp only []; omega)).trans bp1_0
  replace bp1_1 := (z13.cell (p := ⟨w.heap.size + 1, 1, none⟩) (by simp only []; omega)).trans bp1_1
  replace bp1_2 := (z13.cell (p := ⟨w.heap.size + 1, 2, none⟩) (by simp only []; omega)).trans bp1_2
  replace bp1_3 := (z13.cell (p := ⟨w.heap.size + 1, 3, none⟩) (by simp only []; omega)).trans bp1_3
  replace by0_0 := (z13.cell (p := ⟨w8.heap.size, 0, none⟩) (by simp only []; omega)).trans by0_0
  have t14 := z14.size
  have hb14 := on hb13 z14
  replace W0 := W0.below z14 (by omega)
  replace y0 := y0.below z14 (by omega)
  replace G0 := G0.below z14 (by omega)
  replace bp0_0 := (z14.cell (p := ⟨w.heap.size, 0, none⟩) (by simp only []; omega)).trans bp0_0
  replace bp1_0 := (z14.cell (p := ⟨w.heap.size + 1, 0, none⟩) (by simp only []; omega)).trans bp1_0
  replace bp1_1 := (z14.cell (p := ⟨w.heap.size + 1, 1, none⟩) (by simp only []; omega)).trans bp1_1
  replace bp1_2 := (z14.cell (p := ⟨w.heap.size + 1, 2, none⟩) (by simp only []; omega)).trans bp1_2
  replace bp1_3 := (z14.cell (p := ⟨w.heap.size + 1, 3, none⟩) (by simp only []; omega)).trans bp1_3
  replace by0_0 := (z14.cell (p := ⟨w8.heap.size, 0, none⟩) (by simp only []; omega)).trans by0_0
  have hct0 := cnt_le_Db x0
  go_wp2_with fail
  refine (mark_Db _ x0 (1) w7.heap.size w8.heap.size _ y0 (by omega) (by omega) (by omega) (by omega)).mono ?_
  rintro e w15 ⟨rfl, y0m, z15⟩
  have s15 := z15.size
  have hb15 := hb14.trans ((z15.below (by omega)).mono (by omega))
  replace W0 := W0.turn z15 (by omega)
  replace G0 := G0.turn z15 (by omega)
  replace bp0_0 := (z15.cell (p := ⟨w.heap.size, 0, none⟩) (by simp only []; omega) (by simp only []; omega)).trans bp0_0
  replace bp1_0 := (z15.cell (p := ⟨w.heap.size + 1, 0, none⟩) (by simp only []; omega) (by simp only []; omega)).trans bp1_0
  replace bp1_1 := (z15.cell (p := ⟨w.heap.size + 1, 1, none⟩) (by simp only []; omega) (by simp only []; omega)).trans bp1_1
  replace bp1_2 := (z15.cell (p := ⟨w.heap.size + 1, 2, none⟩) (by simp only []; omega) (by simp only []; omega)).trans bp1_2
  replace bp1_3 := (z15.cell (p := ⟨w.heap.size + 1, 3, none⟩) (by simp only []; omega) (by simp only []; omega)).trans bp1_3
  replace by0_0 := (z15.cell (p := ⟨w8.heap.size, 0, none⟩) (by simp only []; omega) (by simp only []; omega)).trans by0_0
  clear y0
  clear y0m
  go_wp2_with fail
  refine (eq_I _ _ _ _ _ (G0.rd reads_I) (W0.rd reads_I)).mono ?_
  rintro e w16 ⟨rfl, z16⟩
  replace z16 : Below w15.heap.size w15 w16 := z16.below _
  have s16 := z16.size
  have hb16 := on hb15 z16
  replace W0 := W0.below z16 (by omega)
  replace G0 := G0.below z16 (by omega)
  replace bp0_0 := (z16.cell (p := ⟨w.heap.size, 0, none⟩) (by simp only []; omega)).trans bp0_0
  replace bp1_0 := (z16.cell (p := ⟨w.heap.size + 1, 0, none⟩) (by simp only []; omega)).trans bp1_0
  replace bp1_1 := (z16.cell (p := ⟨w.heap.size + 1, 1, none⟩) (by simp only []; omega)).trans bp1_1
  replace bp1_2 := (z16.cell (p := ⟨w.heap.size + 1, 2, none⟩) (by simp only []; omega)).trans bp1_2
  replace bp1_3 := (z16.cell (p := ⟨w.heap.size + 1, 3, none⟩) (by simp only []; omega)).trans bp1_3
  replace by0_0 := (z16.cell (p := ⟨w8.heap.size, 0, none⟩) (by simp only []; omega)).trans by0_0
  have hrb0 := show cnt_I (missing x0 x1) ≤ 10 from missing_len x0 x1
  go_wp2_with fail
  refine (mark_I _ _ (1) w10.heap.size w11.heap.size _ G0 (by omega) (by omega) (by omega)).mono ?_
  rintro e w17 ⟨rfl, M0, z17⟩
  have s17 := z17.size
  have hb17 := hb16.trans ((z17.below (by omega)).mono (by omega))
  replace W0 := W0.turn z17 (by omega)
  replace bp0_0 := (z17.cell (p := ⟨w.heap.size, 0, none⟩) (by simp only []; omega) (by simp only []; omega)).trans bp0_0
  replace bp1_0 := (z17.cell (p := ⟨w.heap.size + 1, 0, none⟩) (by simp only []; omega) (by simp only []; omega)).trans bp1_0
  replace bp1_1 := (z17.cell (p := ⟨w.heap.size + 1, 1, none⟩) (by simp only []; omega) (by simp only []; omega)).trans bp1_1
  replace bp1_2 := (z17.cell (p := ⟨w.heap.size + 1, 2, none⟩) (by simp only []; omega) (by simp only []; omega)).trans bp1_2
  replace bp1_3 := (z17.cell (p := ⟨w.heap.size + 1, 3, none⟩) (by simp only []; omega) (by simp only []; omega)).trans bp1_3
  replace by0_0 := (z17.cell (p := ⟨w8.heap.size, 0, none⟩) (by simp only []; omega) (by simp only []; omega)).trans by0_0
  clear G0
  go_wp2_with fail
  refine (held_I _ _ (1) _ (M0.rd reads_I) (by omega) (by omega)).mono ?_
  rintro e w' ⟨rfl, rfl⟩
  go_wp2_with fail
  go_region_held3 (fun W => W.cell? ⟨w.heap.size, 0, none⟩ = some (.slice bu0 nu0 cu0) ∧ W.cell? ⟨w.heap.size + 1, 0, none⟩ = some (.string x1.1) ∧ W.cell? ⟨w.heap.size + 1, 1, none⟩ = some (.int .i64 x1.2.1) ∧ W.cell? ⟨w.heap.size + 1, 2, none⟩ = some (.string x1.2.2.1) ∧ W.cell? ⟨w.heap.size + 1, 3, none⟩ = some (.int .i64 x1.2.2.2)) (first | exact ⟨bp0_0, bp1_0, bp1_1, bp1_2, bp1_3⟩ | assumption) (first | (go_at_call 74; with_reducible (show Calls Try.prog 74 #[.agg #[.slice bu0 nu0 cu0]] _ _); refine (to_Db _ x0 _ (rDb.mono h0 hb17.drew) (by omega)).mono ?_; rintro e w18 ⟨cp0, rfl, p0, z18⟩; replace z18 : Below w17.heap.size w17 w18 := on (Below.refl _ _).drew z18; have sz18 := z18.size; obtain ⟨bup0, nup0, cup0, rfl⟩ := oDb_form p0; have hS18 := (⟨(z18.cell (p := ⟨w.heap.size, 0, none⟩) (by simp only []; omega)).trans bp0_0, (z18.cell (p := ⟨w.heap.size + 1, 0, none⟩) (by simp only []; omega)).trans bp1_0, (z18.cell (p := ⟨w.heap.size + 1, 1, none⟩) (by simp only []; omega)).trans bp1_1, (z18.cell (p := ⟨w.heap.size + 1, 2, none⟩) (by simp only []; omega)).trans bp1_2, (z18.cell (p := ⟨w.heap.size + 1, 3, none⟩) (by simp only []; omega)).trans bp1_3⟩ : (fun W => W.cell? ⟨w.heap.size, 0, none⟩ = some (.slice bu0 nu0 cu0) ∧ W.cell? ⟨w.heap.size + 1, 0, none⟩ = some (.string x1.1) ∧ W.cell? ⟨w.heap.size + 1, 1, none⟩ = some (.int .i64 x1.2.1) ∧ W.cell? ⟨w.heap.size + 1, 2, none⟩ = some (.string x1.2.2.1) ∧ W.cell? ⟨w.heap.size + 1, 3, none⟩ = some (.int .i64 x1.2.2.2)) w18); have hx18 := on hb17 z18) | (go_at_call 75; with_reducible (show Calls Try.prog 75 #[.agg #[.string x1.1, .int .i64 x1.2.1, .string x1.2.2.1, .int .i64 x1.2.2.2]] _ _); refine (to_In _ x1 _ (rIn.mono h1 hx18)).mono ?_; rintro e w19 ⟨rfl, z19⟩; have sz19 := z19.size; replace p0 := p0.below z19 (by omega); have hS19 := (⟨(z19.cell (p := ⟨w.heap.size, 0, none⟩) (by simp only []; omega)).trans hS18.1, (z19.cell (p := ⟨w.heap.size + 1, 0, none⟩) (by simp only []; omega)).trans hS18.2.1, (z19.cell (p := ⟨w.heap.size + 1, 1, none⟩) (by simp only []; omega)).trans hS18.2.2.1, (z19.cell (p := ⟨w.heap.size + 1, 2, none⟩) (by simp only []; omega)).trans hS18.2.2.2.1, (z19.cell (p := ⟨w.heap.size + 1, 3, none⟩) (by simp only []; omega)).trans hS18.2.2.2.2⟩ : (fun W => W.cell? ⟨w.heap.size, 0, none⟩ = some (.slice bu0 nu0 cu0) ∧ W.cell? ⟨w.heap.size + 1, 0, none⟩ = some (.string x1.1) ∧ W.cell? ⟨w.heap.size + 1, 1, none⟩ = some (.int .i64 x1.2.1) ∧ W.cell? ⟨w.heap.size + 1, 2, none⟩ = some (.string x1.2.2.1) ∧ W.cell? ⟨w.heap.size + 1, 3, none⟩ = some (.int .i64 x1.2.2.2)) w19); have hx19 := on hx18 z19) | (go_at_call 79; refine (missing_impl _ _ x0 x1 _ (p0.rd reads_Db) (rIn.mono h1 hx19)).mono ?_; rintro e w20 ⟨cH0, rfl, H0, z20⟩; have sz20 := z20.size; replace p0 := p0.below z20 (by omega); have hS20 := (⟨(z20.cell (p := ⟨w.heap.size, 0, none⟩) (by simp only []; omega)).trans hS19.1, (z20.cell (p := ⟨w.heap.size + 1, 0, none⟩) (by simp only []; omega)).trans hS19.2.1, (z20.cell (p := ⟨w.heap.size + 1, 1, none⟩) (by simp only []; omega)).trans hS19.2.2.1, (z20.cell (p := ⟨w.heap.size + 1, 2, none⟩) (by simp only []; omega)).trans hS19.2.2.2.1, (z20.cell (p := ⟨w.heap.size + 1, 3, none⟩) (by simp only []; omega)).trans hS19.2.2.2.2⟩ : (fun W => W.cell? ⟨w.heap.size, 0, none⟩ = some (.slice bu0 nu0 cu0) ∧ W.cell? ⟨w.heap.size + 1, 0, none⟩ = some (.string x1.1) ∧ W.cell? ⟨w.heap.size + 1, 1, none⟩ = some (.int .i64 x1.2.1) ∧ W.cell? ⟨w.heap.size + 1, 2, none⟩ = some (.string x1.2.2.1) ∧ W.cell? ⟨w.heap.size + 1, 3, none⟩ = some (.int .i64 x1.2.2.2)) w20); have hx20 := on hx19 z20))
  replace z18 : Below w17.heap.size w17 w18 := z18
  replace z19 : Below w18.heap.size w18 w19 := z19
  replace z20 : Below w19.heap.size w19 w20 := z20
  clear hS18 hx18 hS19 hx19 hS20 hx20 p0
  have t18 := z18.size
  have hb18 := on hb17 z18
  replace W0 := W0.below z18 (by omega)
  replace M0 := M0.below z18 (by omega)
  replace bp0_0 := (z18.cell (p := ⟨w.heap.size, 0, none⟩) (by simp only []; omega)).trans bp0_0
  replace bp1_0 := (z18.cell (p := ⟨w.heap.size + 1, 0, none⟩) (by simp only []; omega)).trans bp1_0
  replace bp1_1 := (z18.cell (p := ⟨w.heap.size + 1, 1, none⟩) (by simp only []; omega)).trans bp1_1
  replace bp1_2 := (z18.cell (p := ⟨w.heap.size + 1, 2, none⟩) (by simp only []; omega)).trans bp1_2
  replace bp1_3 := (z18.cell (p := ⟨w.heap.size + 1, 3, none⟩) (by simp only []; omega)).trans bp1_3
  replace by0_0 := (z18.cell (p := ⟨w8.heap.size, 0, none⟩) (by simp only []; omega)).trans by0_0
  have t19 := z19.size
  have hb19 := on hb18 z19
  replace W0 := W0.below z19 (by omega)
  replace M0 := M0.below z19 (by omega)
  replace bp0_0 := (z19.cell (p := ⟨w.heap.size, 0, none⟩) (by simp only []; omega)).trans bp0_0
  replace bp1_0 := (z19.cell (p := ⟨w.heap.size + 1, 0, none⟩) (by simp only []; omega)).trans bp1_0
  replace bp1_1 := (z19.cell (p := ⟨w.heap.size + 1, 1, none⟩) (by simp only []; omega)).trans bp1_1
  replace bp1_2 := (z19.cell (p := ⟨w.heap.size + 1, 2, none⟩) (by simp only []; omega)).trans bp1_2
  replace bp1_3 := (z19.cell (p := ⟨w.heap.size + 1, 3, none⟩) (by simp only []; omega)).trans bp1_3
  replace by0_0 := (z19.cell (p := ⟨w8.heap.size, 0, none⟩) (by simp only []; omega)).trans by0_0
  have t20 := z20.size
  have hb20 := on hb19 z20
  replace W0 := W0.below z20 (by omega)
  replace M0 := M0.below z20 (by omega)
  replace bp0_0 := (z20.cell (p := ⟨w.heap.size, 0, none⟩) (by simp only []; omega)).trans bp0_0
  replace bp1_0 := (z20.cell (p := ⟨w.heap.size + 1, 0, none⟩) (by simp only []; omega)).trans bp1_0
  replace bp1_1 := (z20.cell (p := ⟨w.heap.size + 1, 1, none⟩) (by simp only []; omega)).trans bp1_1
  replace bp1_2 := (z20.cell (p := ⟨w.heap.size + 1, 2, none⟩) (by simp only []; omega)).trans bp1_2
  replace bp1_3 := (z20.cell (p := ⟨w.heap.size + 1, 3, none⟩) (by simp only []; omega)).trans bp1_3
  replace by0_0 := (z20.cell (p := ⟨w8.heap.size, 0, none⟩) (by simp only []; omega)).trans by0_0
  go_wp2_with fail
  refine (eq_I _ _ _ _ _ (H0.rd reads_I) (W0.rd reads_I)).mono ?_
  rintro e w21 ⟨rfl, z21⟩
  replace z21 : Below w20.heap.size w20 w21 := z21.below _
  have s21 := z21.size
  have hb21 := on hb20 z21
  replace W0 := W0.below z21 (by omega)
  replace M0 := M0.below z21 (by omega)
  replace H0 := H0.below z21 (by omega)
  replace bp0_0 := (z21.cell (p := ⟨w.heap.size, 0, none⟩) (by simp only []; omega)).trans bp0_0
  replace bp1_0 := (z21.cell (p := ⟨w.heap.size + 1, 0, none⟩) (by simp only []; omega)).trans bp1_0
  replace bp1_1 := (z21.cell (p := ⟨w.heap.size + 1, 1, none⟩) (by simp only []; omega)).trans bp1_1
  replace bp1_2 := (z21.cell (p := ⟨w.heap.size + 1, 2, none⟩) (by simp only []; omega)).trans bp1_2
  replace bp1_3 := (z21.cell (p := ⟨w.heap.size + 1, 3, none⟩) (by simp only []; omega)).trans bp1_3
  replace by0_0 := (z21.cell (p := ⟨w8.heap.size, 0, none⟩) (by simp only []; omega)).trans by0_0
  go_wp2_with fail
  refine (held_I _ _ (1) _ (M0.rd reads_I) (by omega) (by omega)).mono ?_
  rintro e w' ⟨rfl, rfl⟩
  go_wp2_with fail
  go_ret
  exact ⟨rfl, hb21⟩

end Go.Proofs.Ytbkoddikfpkocaa
