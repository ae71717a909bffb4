/- Texts joined for one claim: MissI, MissS. -/
import Derived.Test.YtehcjdbljdpmbaaDoorQ94636f23cc
import Derived.Test.YtehcjdbljdpmbaaDoorQ289b2a937f
import Derived.Test.YtehcjdbljdpmbaaDoorQ749eee4b15
import Derived.Test.YtehcjdbljdpmbaaDoorQ2cfe6fc066
import Derived.Test.YtehcjdbljdpmbaaDoorQa280ee41b3
import Derived.Test.YtehcjdbljdpmbaaDoorQ5892a4fd67

/- Contracts: values that are missing, by the program. -/
namespace Go.Proofs.YtehcjdbljdpmbaaDoor
open Go.RowKit
set_option linter.unusedVariables false
set_option linter.unusedSimpArgs false
set_option synthInstance.maxSize 2000
set_option synthInstance.maxHeartbeats 400000

theorem validIn_facts {db : DDb} {m1 m2 : ByteArray} {c1 c2 : Int} (h : validIn db (m1, c1, m2, c2) = true) : (look db m1).isSome = true ∧ (look db m2).isSome = true ∧ ∃ n1 n2 : Nat, c1 = (n1 : Int) ∧ c2 = (n2 : Int) ∧ (n1 : Int) < (lookT (look db m1)).2.1 ∧ (n2 : Int) < (lookT (look db m2)).2.1 := by
  simp only [validIn, Bool.and_eq_true, betw, decide_eq_true_eq] at h
  obtain ⟨h1, h2, ⟨h3, h4⟩, h5, h6⟩ := h
  exact ⟨h1, h2, c1.toNat, c2.toNat, by omega, by omega, by omega, by omega⟩
theorem colVals_step {rows : List (List Int)} {c j : Nat} {r : List Int} {v : Int} (h : rows[j]? = some r) (hv : r.getD c 0 = v) : colVals (rows.take (j + 1)) c = colVals (rows.take j) c ++ [v] := by
  rw [List.take_add_one, h]; simp only [colVals, Option.toList_some, List.map_append, List.map_cons, List.map_nil, hv]
theorem colVals_len (rows : List (List Int)) (c : Nat) : (colVals rows c).length = rows.length := by simp [colVals]
theorem colVals_rng {t : DT} (h : TOk t) {c : Nat} (hc : (c : Int) < t.2.1) : ∀ x ∈ colVals t.2.2 c, 0 ≤ x ∧ x ≤ 9 := by
  intro x hx
  simp only [colVals, List.mem_map] at hx
  obtain ⟨r, hr, rfl⟩ := hx
  obtain ⟨h1, h2⟩ := h.row r hr
  refine h2 _ ?_
  rw [List.getD_eq_getElem?_getD, List.getElem?_eq_getElem (by omega)]
  exact List.getElem_mem _
/-- Those of the first j values of a column that are not there. -/
def newVals (rows : List (List Int)) (c : Nat) (b : List Int) : List Int := (colVals rows c).filter (fun x => !has b x)
theorem newVals_yes {rows : List (List Int)} {c j : Nat} {r b : List Int} {v : Int} (h : rows[j]? = some r) (hv : r.getD c 0 = v) (hb : has b v = false) : newVals (rows.take (j + 1)) c b = newVals (rows.take j) c b ++ [v] := by
  rw [newVals, colVals_step h hv, List.filter_append]; simp [newVals, hb]
theorem newVals_no {rows : List (List Int)} {c j : Nat} {r b : List Int} {v : Int} (h : rows[j]? = some r) (hv : r.getD c 0 = v) (hb : has b v = true) : newVals (rows.take (j + 1)) c b = newVals (rows.take j) c b := by
  rw [newVals, colVals_step h hv, List.filter_append]; simp [newVals, hb]
theorem newVals_len (rows : List (List Int)) (c : Nat) (b : List Int) : (newVals rows c b).length ≤ rows.length := by
  rw [newVals, ← colVals_len rows c]; exact List.length_filter_le _ _

set_option maxHeartbeats 4000000 in
theorem missing_impl (cs ds : List Value) (db : DDb) (x : DIn) (w : World) (h : rDb.rep w cs db) (h' : rIn.rep w ds x) :
    Calls Tryd.prog 28 #[.agg cs.toArray, .agg ds.toArray] w fun e w' => ∃ u, e = .returned u ∧ Own oI w.heap.size w'.heap.size w' [u] (missing db x) ∧ Below w.heap.size w w' := by
  obtain ⟨ub, un, uc, rfl, g1⟩ := rDb_open h
  obtain ⟨rfl, hs0, hi1, hs2, hi3⟩ := rIn_open h'
  have hcv := fun W (hW : Below w.heap.size w W) => validIn_impl _ _ db x W (rDb.mono h hW) (rIn.mono h' hW)
  obtain ⟨m1, c1, m2, c2⟩ := x
  simp only at hs0 hi1 hs2 hi3 hcv
  have HCV := Lib.hid hcv
  have HCK := Lib.hid (fun name W (hW : Below w.heap.size w W) => lookI_any [.slice ub un uc] db name W (rDb.mono h hW))
  clear hcv h h' g1 hs0 hi1 hs2 hi3
  have hb0 : Below w.heap.size w w := Below.refl _ _
  go_enter Tryd.func28, Tryd.ntmps28
  obtain ⟨w1, hw1⟩ : ∃ W, W = w.alloc (.cells #[.slice ub un uc] 49) := ⟨_, rfl⟩
  have z1 : Below w.heap.size w w1 := by rw [hw1]; exact (Below.refl _ _).alloc (Nat.le_refl _) _
  have s1 : w1.heap.size = w.heap.size + 1 := by rw [hw1]; simp
  have hb1 := on hb0 z1
  have b_0 : w1.cell? ⟨w.heap.size, 0, none⟩ = some (.slice ub un uc) := by rw [hw1]; exact box_cell (Below.refl _ _) rfl
  have raw1_b_0 := b_0
  rw [hw1] at raw1_b_0
  obtain ⟨w2, hw2⟩ : ∃ W, W = w1.alloc (.cells #[.string m1, .int .i64 c1, .string m2, .int .i64 c2] 51) := ⟨_, rfl⟩
  have z2 : Below w1.heap.size w1 w2 := by rw [hw2]; exact (Below.refl _ _).alloc (Nat.le_refl _) _
  have s2 : w2.heap.size = w1.heap.size + 1 := by rw [hw2]; simp
  have hb2 := on hb1 z2
  replace b_0 := (z2.cell (p := ⟨w.heap.size, 0, none⟩) (by simp only []; omega)).trans b_0
  have e2 : w1.heap.size = w.heap.size + 1 := by omega
  have x_0 : w2.cell? ⟨w1.heap.size, 0, none⟩ = some (.string m1) := by rw [hw2]; exact box_cell (Below.refl _ _) rfl
  have x_1 : w2.cell? ⟨w1.heap.size, 1, none⟩ = some (.int .i64 c1) := by rw [hw2]; exact box_cell (Below.refl _ _) rfl
  have x_2 : w2.cell? ⟨w1.heap.size, 2, none⟩ = some (.string m2) := by rw [hw2]; exact box_cell (Below.refl _ _) rfl
  have x_3 : w2.cell? ⟨w1.heap.size, 3, none⟩ = some (.int .i64 c2) := by rw [hw2]; exact box_cell (Below.refl _ _) rfl
  rw [e2] at x_0 x_1 x_2 x_3
  have raw2_b_0 := b_0
  have raw2_x_0 := x_0
  have raw2_x_1 := x_1
  have raw2_x_2 := x_2
  have raw2_x_3 := x_3
  rw [hw2, hw1] at raw2_b_0 raw2_x_0 raw2_x_1 raw2_x_2 raw2_x_3
  go_wp2_with fail
  rw [← hw1]
  rw [← hw2]
  clear hw2 hw1
  clear raw1_b_0 raw2_b_0 raw2_x_0 raw2_x_1 raw2_x_2 raw2_x_3
  refine (HCV.out _ hb2).mono ?_
  rintro e wA ⟨rfl, zA⟩
  have s3 := zA.size
  have hb3 := on hb2 zA
  replace b_0 := (zA.cell (p := ⟨w.heap.size, 0, none⟩) (by simp only []; omega)).trans b_0
  replace x_0 := (zA.cell (p := ⟨w.heap.size + 1, 0, none⟩) (by simp only []; omega)).trans x_0
  replace x_1 := (zA.cell (p := ⟨w.heap.size + 1, 1, none⟩) (by simp only []; omega)).trans x_1
  replace x_2 := (zA.cell (p := ⟨w.heap.size + 1, 2, none⟩) (by simp only []; omega)).trans x_2
  replace x_3 := (zA.cell (p := ⟨w.heap.size + 1, 3, none⟩) (by simp only []; omega)).trans x_3
  by_cases hv : validIn db (m1, c1, m2, c2) = true
  case neg =>
    replace hv : validIn db (m1, c1, m2, c2) = false := by simpa using hv
    have HE : Hid (missing db (m1, c1, m2, c2) = []) := Lib.hid (by simp [missing, hv])
    rw [hv]
    go_wp2_with fail
    go_ret
    exact ⟨_, rfl, by rw [HE.out]; exact own_nil_S.mono (Nat.le_refl _) (by omega), hb3⟩
  obtain ⟨hsm1, hsm2, n1, n2, rfl, rfl, hn1, hn2⟩ := validIn_facts hv
  have hok1 := look_okT hsm1
  have hok2 := look_okT hsm2
  have HE : Hid (missing db (m1, (n1 : Int), m2, (n2 : Int)) = missTo (colVals (lookT (look db m1)).2.2 n1) (colVals (lookT (look db m2)).2.2 n2) 10) := Lib.hid (by simp [missing, hv])
  rw [hv]
  clear hv
  have hc1 := fun W hW => HCK.out m1 W hW
  have hc2 := fun W hW => HCK.out m2 W hW
  obtain ⟨t1, ht1⟩ : ∃ t, lookT (look db m1) = t := ⟨_, rfl⟩
  obtain ⟨t2, ht2⟩ : ∃ t, lookT (look db m2) = t := ⟨_, rfl⟩
  rw [ht1] at hok1 hn1 HE
  rw [ht2] at hok2 hn2 HE
  simp only [hsm1, ht1] at hc1
  simp only [hsm2, ht2] at hc2
  obtain ⟨ns, A, r1⟩ := t1
  obtain ⟨ms, B, r2⟩ := t2
  simp only at hn1 hn2 HE hc1 hc2
  have hl8a := hok1.len
  have hl8b := hok2.len
  have HR1 := Lib.hid hok1.row
  have HR2 := Lib.hid hok2.row
  have HM := Lib.hid (miss_impl (b := colVals r2 n2) (colVals_rng hok1 hn1))
  simp only at hl8a hl8b HR1 HR2 HM
  have hA1 := hok1.ar
  have hB1 := hok2.ar
  simp only at hA1 hB1
  have HC1 := Lib.hid hc1
  have HC2 := Lib.hid hc2
  clear hc1 hc2 ht1 ht2 hok1 hok2 hsm1 hsm2 HCK HCV
  go_wp2_with fail
  refine (HC1.out _ hb3).mono ?_
  rintro e wB ⟨vb, vn, vc, rfl, ho, zB⟩
  have s4 := zB.size
  have hb4 := on hb3 zB
  replace b_0 := (zB.cell (p := ⟨w.heap.size, 0, none⟩) (by simp only []; omega)).trans b_0
  replace x_0 := (zB.cell (p := ⟨w.heap.size + 1, 0, none⟩) (by simp only []; omega)).trans x_0
  replace x_1 := (zB.cell (p := ⟨w.heap.size + 1, 1, none⟩) (by simp only []; omega)).trans x_1
  replace x_2 := (zB.cell (p := ⟨w.heap.size + 1, 2, none⟩) (by simp only []; omega)).trans x_2
  replace x_3 := (zB.cell (p := ⟨w.heap.size + 1, 3, none⟩) (by simp only []; omega)).trans x_3
  obtain ⟨vb2, vn2, vc2, he9, hs9, hi9, gr⟩ := rT_open (ho.rd reads_T)
  simp at he9 hs9 hi9 gr
  obtain ⟨rfl, rfl, rfl⟩ := he9
  have t1 := rS_sl gr
  have hl1 := t1.len
  have hn1s := t1.small
  clear ho gr hs9 hi9
  have hT1 : Below wB.heap.size wB wB := Below.refl _ _
  obtain ⟨w5, hw5⟩ : ∃ W, W = wB.alloc (.cells #[.string ns, .int .i64 A, .slice vb vn vc] 82) := ⟨_, rfl⟩
  have z5 : Below wB.heap.size wB w5 := by rw [hw5]; exact (Below.refl _ _).alloc (Nat.le_refl _) _
  have s5 : w5.heap.size = wB.heap.size + 1 := by rw [hw5]; simp
  have hb5 := on hb4 z5
  have old5_b_0 := b_0
  have old5_x_0 := x_0
  have old5_x_1 := x_1
  have old5_x_2 := x_2
  have old5_x_3 := x_3
  replace b_0 := (z5.cell (p := ⟨w.heap.size, 0, none⟩) (by simp only []; omega)).trans b_0
  replace x_0 := (z5.cell (p := ⟨w.heap.size + 1, 0, none⟩) (by simp only []; omega)).trans x_0
  replace x_1 := (z5.cell (p := ⟨w.heap.size + 1, 1, none⟩) (by simp only []; omega)).trans x_1
  replace x_2 := (z5.cell (p := ⟨w.heap.size + 1, 2, none⟩) (by simp only []; omega)).trans x_2
  replace x_3 := (z5.cell (p := ⟨w.heap.size + 1, 3, none⟩) (by simp only []; omega)).trans x_3
  replace hT1 := on hT1 z5
  have ta_0 : w5.cell? ⟨wB.heap.size, 0, none⟩ = some (.string ns) := by rw [hw5]; exact box_cell (Below.refl _ _) rfl
  have ta_1 : w5.cell? ⟨wB.heap.size, 1, none⟩ = some (.int .i64 A) := by rw [hw5]; exact box_cell (Below.refl _ _) rfl
  have ta_2 : w5.cell? ⟨wB.heap.size, 2, none⟩ = some (.slice vb vn vc) := by rw [hw5]; exact box_cell (Below.refl _ _) rfl
  have raw5_b_0 := b_0
  have raw5_x_0 := x_0
  have raw5_x_1 := x_1
  have raw5_x_2 := x_2
  have raw5_x_3 := x_3
  have raw5_ta_0 := ta_0
  have raw5_ta_1 := ta_1
  have raw5_ta_2 := ta_2
  rw [hw5] at raw5_b_0 raw5_x_0 raw5_x_1 raw5_x_2 raw5_x_3 raw5_ta_0 raw5_ta_1 raw5_ta_2
  go_wp2_with fail
  rw [← hw5]
  clear hw5
  clear old5_b_0 old5_x_0 old5_x_1 old5_x_2 old5_x_3 raw5_b_0 raw5_x_0 raw5_x_1 raw5_x_2 raw5_x_3 raw5_ta_0 raw5_ta_1 raw5_ta_2
  refine (HC2.out _ hb5).mono ?_
  rintro e wC ⟨ub2, un2, uc2, rfl, ho, zC⟩
  have s6 := zC.size
  have hb6 := on hb5 zC
  replace b_0 := (zC.cell (p := ⟨w.heap.size, 0, none⟩) (by simp only []; omega)).trans b_0
  replace x_0 := (zC.cell (p := ⟨w.heap.size + 1, 0, none⟩) (by simp only []; omega)).trans x_0
  replace x_1 := (zC.cell (p := ⟨w.heap.size + 1, 1, none⟩) (by simp only []; omega)).trans x_1
  replace x_2 := (zC.cell (p := ⟨w.heap.size + 1, 2, none⟩) (by simp only []; omega)).trans x_2
  replace x_3 := (zC.cell (p := ⟨w.heap.size + 1, 3, none⟩) (by simp only []; omega)).trans x_3
  replace hT1 := on hT1 zC
  replace ta_0 := (zC.cell (p := ⟨wB.heap.size, 0, none⟩) (by simp only []; omega)).trans ta_0
  replace ta_1 := (zC.cell (p := ⟨wB.heap.size, 1, none⟩) (by simp only []; omega)).trans ta_1
  replace ta_2 := (zC.cell (p := ⟨wB.heap.size, 2, none⟩) (by simp only []; omega)).trans ta_2
  obtain ⟨vb3, vn3, vc3, he9, hs9, hi9, gr⟩ := rT_open (ho.rd reads_T)
  simp at he9 hs9 hi9 gr
  obtain ⟨rfl, rfl, rfl⟩ := he9
  have t2 := rS_sl gr
  have hl2 := t2.len
  have hn2s := t2.small
  clear ho gr hs9 hi9 HC1 HC2
  have hT2 : Below wC.heap.size wC wC := Below.refl _ _
  obtain ⟨w7, hw7⟩ : ∃ W, W = wC.alloc (.cells #[.string ms, .int .i64 B, .slice ub2 un2 uc2] 82) := ⟨_, rfl⟩
  have z7 : Below wC.heap.size wC w7 := by rw [hw7]; exact (Below.refl _ _).alloc (Nat.le_refl _) _
  have s7 : w7.heap.size = wC.heap.size + 1 := by rw [hw7]; simp
  have hb7 := on hb6 z7
  have old7_b_0 := b_0
  have old7_x_0 := x_0
  have old7_x_1 := x_1
  have old7_x_2 := x_2
  have old7_x_3 := x_3
  have old7_ta_0 := ta_0
  have old7_ta_1 := ta_1
  have old7_ta_2 := ta_2
  replace b_0 := (z7.cell (p := ⟨w.heap.size, 0, none⟩) (by simp only []; omega)).trans b_0
  replace x_0 := (z7.cell (p := ⟨w.heap.size + 1, 0, none⟩) (by simp only []; omega)).trans x_0
  replace x_1 := (z7.cell (p := ⟨w.heap.size + 1, 1, none⟩) (by simp only []; omega)).trans x_1
  replace x_2 := (z7.cell (p := ⟨w.heap.size + 1, 2, none⟩) (by simp only []; omega)).trans x_2
  replace x_3 := (z7.cell (p := ⟨w.heap.size + 1, 3, none⟩) (by simp only []; omega)).trans x_3
  replace hT1 := on hT1 z7
  replace ta_0 := (z7.cell (p := ⟨wB.heap.size, 0, none⟩) (by simp only []; omega)).trans ta_0
  replace ta_1 := (z7.cell (p := ⟨wB.heap.size, 1, none⟩) (by simp only []; omega)).trans ta_1
  replace ta_2 := (z7.cell (p := ⟨wB.heap.size, 2, none⟩) (by simp only []; omega)).trans ta_2
  replace hT2 := on hT2 z7
  have tb_0 : w7.cell? ⟨wC.heap.size, 0, none⟩ = some (.string ms) := by rw [hw7]; exact box_cell (Below.refl _ _) rfl
  have tb_1 : w7.cell? ⟨wC.heap.size, 1, none⟩ = some (.int .i64 B) := by rw [hw7]; exact box_cell (Below.refl _ _) rfl
  have tb_2 : w7.cell? ⟨wC.heap.size, 2, none⟩ = some (.slice ub2 un2 uc2) := by rw [hw7]; exact box_cell (Below.refl _ _) rfl
  have raw7_b_0 := b_0
  have raw7_x_0 := x_0
  have raw7_x_1 := x_1
  have raw7_x_2 := x_2
  have raw7_x_3 := x_3
  have raw7_ta_0 := ta_0
  have raw7_ta_1 := ta_1
  have raw7_ta_2 := ta_2
  have raw7_tb_0 := tb_0
  have raw7_tb_1 := tb_1
  have raw7_tb_2 := tb_2
  rw [hw7] at raw7_b_0 raw7_x_0 raw7_x_1 raw7_x_2 raw7_x_3 raw7_ta_0 raw7_ta_1 raw7_ta_2 raw7_tb_0 raw7_tb_1 raw7_tb_2
  go_wp2_with fail
  rw [← hw7]
  clear hw7
  clear old7_b_0 old7_x_0 old7_x_1 old7_x_2 old7_x_3 old7_ta_0 old7_ta_1 old7_ta_2 raw7_b_0 raw7_x_0 raw7_x_1 raw7_x_2 raw7_x_3 raw7_ta_0 raw7_ta_1 raw7_ta_2 raw7_tb_0 raw7_tb_1 raw7_tb_2
  obtain ⟨w8, hw8⟩ : ∃ W, W = w7.alloc (.cells #[] 3) := ⟨_, rfl⟩
  have z8 : Below w7.heap.size w7 w8 := by rw [hw8]; exact (Below.refl _ _).alloc (Nat.le_refl _) _
  have s8 : w8.heap.size = w7.heap.size + 1 := by rw [hw8]; simp
  have hb8 := on hb7 z8
  replace b_0 := (z8.cell (p := ⟨w.heap.size, 0, none⟩) (by simp only []; omega)).trans b_0
  replace x_0 := (z8.cell (p := ⟨w.heap.size + 1, 0, none⟩) (by simp only []; omega)).trans x_0
  replace x_1 := (z8.cell (p := ⟨w.heap.size + 1, 1, none⟩) (by simp only []; omega)).trans x_1
  replace x_2 := (z8.cell (p := ⟨w.heap.size + 1, 2, none⟩) (by simp only []; omega)).trans x_2
  replace x_3 := (z8.cell (p := ⟨w.heap.size + 1, 3, none⟩) (by simp only []; omega)).trans x_3
  replace hT1 := on hT1 z8
  replace ta_0 := (z8.cell (p := ⟨wB.heap.size, 0, none⟩) (by simp only []; omega)).trans ta_0
  replace ta_1 := (z8.cell (p := ⟨wB.heap.size, 1, none⟩) (by simp only []; omega)).trans ta_1
  replace ta_2 := (z8.cell (p := ⟨wB.heap.size, 2, none⟩) (by simp only []; omega)).trans ta_2
  replace hT2 := on hT2 z8
  replace tb_0 := (z8.cell (p := ⟨wC.heap.size, 0, none⟩) (by simp only []; omega)).trans tb_0
  replace tb_1 := (z8.cell (p := ⟨wC.heap.size, 1, none⟩) (by simp only []; omega)).trans tb_1
  replace tb_2 := (z8.cell (p := ⟨wC.heap.size, 2, none⟩) (by simp only []; omega)).trans tb_2
  have he1 : ∀ S, Acc 3 O.int w7.heap.size S w8.heap.size w8 (.slice (some ⟨wC.heap.size + 1, 0, none⟩) 0 0) [] := fun S => by rw [hw8]; exact Acc.empty (by omega) (by first | (simp; done) | (simp; omega))
  have raw8_b_0 := b_0
  have raw8_x_0 := x_0
  have raw8_x_1 := x_1
  have raw8_x_2 := x_2
  have raw8_x_3 := x_3
  have raw8_ta_0 := ta_0
  have raw8_ta_1 := ta_1
  have raw8_ta_2 := ta_2
  have raw8_tb_0 := tb_0
  have raw8_tb_1 := tb_1
  have raw8_tb_2 := tb_2
  rw [hw8] at raw8_b_0 raw8_x_0 raw8_x_1 raw8_x_2 raw8_x_3 raw8_ta_0 raw8_ta_1 raw8_ta_2 raw8_tb_0 raw8_tb_1 raw8_tb_2
  go_wp2_with fail
  rw [← hw8]
  clear hw8
  clear raw8_b_0 raw8_x_0 raw8_x_1 raw8_x_2 raw8_x_3 raw8_ta_0 raw8_ta_1 raw8_ta_2 raw8_tb_0 raw8_tb_1 raw8_tb_2
  go_loopw [9, 38] (fun v k wr => ∃ j : Nat, j ≤ un2 ∧ k = .int .i64 j ∧ Acc 3 O.int w7.heap.size w8.heap.size wr.heap.size wr v (colVals (r2.take j) n2) ∧ Turn w7.heap.size (w7.heap.size + 1) w8 wr) (fun _ k _ => un2 - (intOf k).toNat)
  case atStart => exact ⟨0, Nat.zero_le _, rfl, by rw [List.take_zero]; exact (he1 _).wide (Nat.le_refl _) (by omega), turn_refl _ _ _⟩
  case round =>
    obtain ⟨j, hj, rfl, hacc, hdr⟩ := hrel
    have hlc := hdr
    obtain ⟨wo, rfl⟩ : ∃ W, W = wr := ⟨_, rfl⟩
    have s9 := hdr.size
    have hb9 := hb8.trans ((hdr.below (by omega)).mono (by omega))
    replace b_0 := (hdr.cell (p := ⟨w.heap.size, 0, none⟩) (by simp only []; omega) (by simp only []; omega)).trans b_0
    replace x_0 := (hdr.cell (p := ⟨w.heap.size + 1, 0, none⟩) (by simp only []; omega) (by simp only []; omega)).trans x_0
    replace x_1 := (hdr.cell (p := ⟨w.heap.size + 1, 1, none⟩) (by simp only []; omega) (by simp only []; omega)).trans x_1
    replace x_2 := (hdr.cell (p := ⟨w.heap.size + 1, 2, none⟩) (by simp only []; omega) (by simp only []; omega)).trans x_2
    replace x_3 := (hdr.cell (p := ⟨w.heap.size + 1, 3, none⟩) (by simp only []; omega) (by simp only []; omega)).trans x_3
    replace ta_0 := (hdr.cell (p := ⟨wB.heap.size, 0, none⟩) (by simp only []; omega) (by simp only []; omega)).trans ta_0
    replace ta_1 := (hdr.cell (p := ⟨wB.heap.size, 1, none⟩) (by simp only []; omega) (by simp only []; omega)).trans ta_1
    replace ta_2 := (hdr.cell (p := ⟨wB.heap.size, 2, none⟩) (by simp only []; omega) (by simp only []; omega)).trans ta_2
    replace tb_0 := (hdr.cell (p := ⟨wC.heap.size, 0, none⟩) (by simp only []; omega) (by simp only []; omega)).trans tb_0
    replace tb_1 := (hdr.cell (p := ⟨wC.heap.size, 1, none⟩) (by simp only []; omega) (by simp only []; omega)).trans tb_1
    replace tb_2 := (hdr.cell (p := ⟨wC.heap.size, 2, none⟩) (by simp only []; omega) (by simp only []; omega)).trans tb_2
    replace hT1 := hT1.trans ((hlc.below (by omega)).mono (by omega))
    replace hT2 := hT2.trans ((hlc.below (by omega)).mono (by omega))
    have hal : (colVals (r2.take j) n2).length ≤ 8 := by rw [colVals_len]; have := List.length_take_le j r2; omega
    by_cases hlt : j < un2
    · obtain ⟨b1, o1, yb, yn, yc, y, rfl, hcy, hy, iy, _⟩ := t2.row hlt
      have hyA := (HR2.out y (List.mem_of_getElem? hy.out)).1
      have hyl := iy.len
      have hbt1 : b1 < wC.heap.size := cell_lt hcy
      have y0 : wo.cell? ⟨b1, o1 + j, none⟩ = some (.slice yb yn yc) := (hT2.cell (p := ⟨b1, o1 + j, none⟩) hbt1).trans hcy
      obtain ⟨yb1, yo1, yv, hye, hcyv, hyv, hyv1, hyv2⟩ := iy.get (show n2 < yn by omega)
      subst hye
      have hbt2 : yb1 < wC.heap.size := cell_lt hcyv
      have yv0 : wo.cell? ⟨yb1, yo1 + n2, none⟩ = some (.int .i64 yv) := (hT2.cell (p := ⟨yb1, yo1 + n2, none⟩) hbt2).trans hcyv
      have hyn : n2 < yn := by omega
      have HS := Lib.hid (colVals_step (c := n2) hy.out hyv.out)
      clear hcy hcyv iy t1 t2 hyA hyl hl1 hl2
      go_wp2_with ((at_builtin; refine wpList_accI _ _ _ _ _ hacc hlc rfl (by omega) (Nat.le_refl _) ⟨by omega, by omega⟩ (by omega) rfl rfl rfl rfl rfl ?_; intro v' wD hacc' ht' hsz'))
      rw [← HS.out] at hacc'
      go_roundw
      case rel => exact ⟨j + 1, by omega, by go_num, hacc', ht'⟩
      case measure => simp [intOf]; omega
    · obtain rfl : j = un2 := by omega
      rw [List.take_of_length_le (by omega)] at hacc
      obtain ⟨sb, sn, sc, rfl⟩ := hacc.form3
      have o1 := hacc.own (B := w7.heap.size) (Nat.le_refl _) (by omega) (Nat.le_refl _)
      obtain ⟨there, hth⟩ : ∃ l, l = colVals r2 n2 := ⟨_, rfl⟩
      rw [← hth] at o1 HE HM
      clear hacc he1 hth hal t2 hl2 hT2
      obtain ⟨w10, hw10⟩ : ∃ W, W = wo.alloc (.cells #[] 3) := ⟨_, rfl⟩
      have z10 : Below wo.heap.size wo w10 := by rw [hw10]; exact (Below.refl _ _).alloc (Nat.le_refl _) _
      have s10 : w10.heap.size = wo.heap.size + 1 := by rw [hw10]; simp
      have hb10 := on hb9 z10
      replace b_0 := (z10.cell (p := ⟨w.heap.size, 0, none⟩) (by simp only []; omega)).trans b_0
      replace x_0 := (z10.cell (p := ⟨w.heap.size + 1, 0, none⟩) (by simp only []; omega)).trans x_0
      replace x_1 := (z10.cell (p := ⟨w.heap.size + 1, 1, none⟩) (by simp only []; omega)).trans x_1
      replace x_2 := (z10.cell (p := ⟨w.heap.size + 1, 2, none⟩) (by simp only []; omega)).trans x_2
      replace x_3 := (z10.cell (p := ⟨w.heap.size + 1, 3, none⟩) (by simp only []; omega)).trans x_3
      replace hT1 := on hT1 z10
      replace ta_0 := (z10.cell (p := ⟨wB.heap.size, 0, none⟩) (by simp only []; omega)).trans ta_0
      replace ta_1 := (z10.cell (p := ⟨wB.heap.size, 1, none⟩) (by simp only []; omega)).trans ta_1
      replace ta_2 := (z10.cell (p := ⟨wB.heap.size, 2, none⟩) (by simp only []; omega)).trans ta_2
      replace tb_0 := (z10.cell (p := ⟨wC.heap.size, 0, none⟩) (by simp only []; omega)).trans tb_0
      replace tb_1 := (z10.cell (p := ⟨wC.heap.size, 1, none⟩) (by simp only []; omega)).trans tb_1
      replace tb_2 := (z10.cell (p := ⟨wC.heap.size, 2, none⟩) (by simp only []; omega)).trans tb_2
      replace o1 := o1.below z10 (by omega)
      have he2 : ∀ S, Acc 3 O.int wo.heap.size S w10.heap.size w10 (.slice (some ⟨wo.heap.size, 0, none⟩) 0 0) [] := fun S => by rw [hw10]; exact Acc.empty (by omega) (by first | (simp; done) | (simp; omega))
      have raw10_b_0 := b_0
      have raw10_x_0 := x_0
      have raw10_x_1 := x_1
      have raw10_x_2 := x_2
      have raw10_x_3 := x_3
      have raw10_ta_0 := ta_0
      have raw10_ta_1 := ta_1
      have raw10_ta_2 := ta_2
      have raw10_tb_0 := tb_0
      have raw10_tb_1 := tb_1
      have raw10_tb_2 := tb_2
      rw [hw10] at raw10_b_0 raw10_x_0 raw10_x_1 raw10_x_2 raw10_x_3 raw10_ta_0 raw10_ta_1 raw10_ta_2 raw10_tb_0 raw10_tb_1 raw10_tb_2
      go_wp2_with fail
      rw [← hw10]
      clear hw10
      clear raw10_b_0 raw10_x_0 raw10_x_1 raw10_x_2 raw10_x_3 raw10_ta_0 raw10_ta_1 raw10_ta_2 raw10_tb_0 raw10_tb_1 raw10_tb_2
      go_loopw [12, 55] (fun v k wr => ∃ j : Nat, j ≤ vn ∧ k = .int .i64 j ∧ Acc 3 O.int wo.heap.size w10.heap.size wr.heap.size wr v (newVals (r1.take j) n1 there) ∧ Turn wo.heap.size (wo.heap.size + 1) w10 wr) (fun _ k _ => vn - (intOf k).toNat)
      case atStart => exact ⟨0, Nat.zero_le _, rfl, by rw [List.take_zero]; exact (he2 _).wide (Nat.le_refl _) (by omega), turn_refl _ _ _⟩
      case round =>
        obtain ⟨i, hi, rfl, hacc, hdr⟩ := hrel
        have hld := hdr
        have s11 := hdr.size
        have hb11 := hb10.trans ((hdr.below (by omega)).mono (by omega))
        replace b_0 := (hdr.cell (p := ⟨w.heap.size, 0, none⟩) (by simp only []; omega) (by simp only []; omega)).trans b_0
        replace x_0 := (hdr.cell (p := ⟨w.heap.size + 1, 0, none⟩) (by simp only []; omega) (by simp only []; omega)).trans x_0
        replace x_1 := (hdr.cell (p := ⟨w.heap.size + 1, 1, none⟩) (by simp only []; omega) (by simp only []; omega)).trans x_1
        replace x_2 := (hdr.cell (p := ⟨w.heap.size + 1, 2, none⟩) (by simp only []; omega) (by simp only []; omega)).trans x_2
        replace x_3 := (hdr.cell (p := ⟨w.heap.size + 1, 3, none⟩) (by simp only []; omega) (by simp only []; omega)).trans x_3
        replace ta_0 := (hdr.cell (p := ⟨wB.heap.size, 0, none⟩) (by simp only []; omega) (by simp only []; omega)).trans ta_0
        replace ta_1 := (hdr.cell (p := ⟨wB.heap.size, 1, none⟩) (by simp only []; omega) (by simp only []; omega)).trans ta_1
        replace ta_2 := (hdr.cell (p := ⟨wB.heap.size, 2, none⟩) (by simp only []; omega) (by simp only []; omega)).trans ta_2
        replace tb_0 := (hdr.cell (p := ⟨wC.heap.size, 0, none⟩) (by simp only []; omega) (by simp only []; omega)).trans tb_0
        replace tb_1 := (hdr.cell (p := ⟨wC.heap.size, 1, none⟩) (by simp only []; omega) (by simp only []; omega)).trans tb_1
        replace tb_2 := (hdr.cell (p := ⟨wC.heap.size, 2, none⟩) (by simp only []; omega) (by simp only []; omega)).trans tb_2
        replace o1 := o1.turn hdr (by omega)
        replace hT1 := hT1.trans ((hld.below (by omega)).mono (by omega))
        have hal : (newVals (r1.take i) n1 there).length ≤ 8 := by have h1 := newVals_len (r1.take i) n1 there; have := List.length_take_le i r1; omega
        by_cases hlt : i < vn
        · obtain ⟨b1, o1', yb, yn, yc, y, rfl, hcy, hy, iy, _⟩ := t1.row hlt
          have hyA := (HR1.out y (List.mem_of_getElem? hy.out)).1
          have hyl := iy.len
          have hbt1 : b1 < wB.heap.size := cell_lt hcy
          have y0 : wr.cell? ⟨b1, o1' + i, none⟩ = some (.slice yb yn yc) := (hT1.cell (p := ⟨b1, o1' + i, none⟩) hbt1).trans hcy
          obtain ⟨yb1, yo1, yv, hye, hcyv, hyv, hyv1, hyv2⟩ := iy.get (show n1 < yn by omega)
          subst hye
          have hbt2 : yb1 < wB.heap.size := cell_lt hcyv
          have yv0 : wr.cell? ⟨yb1, yo1 + n1, none⟩ = some (.int .i64 yv) := (hT1.cell (p := ⟨yb1, yo1 + n1, none⟩) hbt2).trans hcyv
          have hyn : n1 < yn := by omega
          have hcc := contains_any sb sn sc there yv wr (rI_ints (o1.rd reads_I))
          obtain ⟨t, ht⟩ : ∃ t, t = has there yv := ⟨_, rfl⟩
          rw [← ht] at hcc
          have HCC := Lib.hid hcc
          have HSy := Lib.hid (newVals_yes (c := n1) (b := there) hy.out hyv.out)
          have HSn := Lib.hid (newVals_no (c := n1) (b := there) hy.out hyv.out)
          rw [← ht] at HSy HSn
          clear hcy hcyv iy t1 hyA hyl hl1 hcc ht o1
          cases t with
          | false =>
            have HS := Lib.hid (HSy.out rfl)
            go_wp2_with (first
              | (go_at_call 63; refine (HCC.out).mono ?_; rintro e w' ⟨rfl, rfl⟩)
              | (at_builtin; refine wpList_accI _ _ _ _ _ hacc hld rfl (by omega) (Nat.le_refl _) ⟨by omega, by omega⟩ (by omega) rfl rfl rfl rfl rfl ?_; intro v' wD hacc' ht' hsz'))
            rw [← HS.out] at hacc'
            go_roundw
            case rel => exact ⟨i + 1, by omega, by go_num, hacc', ht'⟩
            case measure => simp [intOf]; omega
          | true =>
            rw [← HSn.out rfl] at hacc
            have HA := Lib.hid hacc
            clear hacc
            go_wp2_with (go_at_call 63; refine (HCC.out).mono ?_; rintro e w' ⟨rfl, rfl⟩)
            go_roundw
            case rel => exact ⟨i + 1, by omega, by go_num, HA.out, hld⟩
            case measure => simp [intOf]; omega
        · obtain rfl : i = vn := by omega
          rw [List.take_of_length_le (by omega)] at hacc hal
          obtain ⟨sb2, sn2, sc2, rfl⟩ := hacc.form3
          have o2 := hacc.own (B := w.heap.size) (by omega) (by omega) (Nat.le_refl _)
          have HO := Lib.hid o2
          have hsz9 := (hb11).size
          clear hacc o2 o1 t1 hl1
          go_wp2_with fail
          refine (sortI_any _ _ _ _ _ HO.out (by omega) hsz9).mono ?_
          rintro e wE ⟨rfl, o3, zE⟩
          have hbx := (hb11).trans zE
          have sE := zE.size
          have hsz8 := hbx.size
          go_wp2_with fail
          refine (compactI_any _ _ _ _ _ o3 (by rw [sortL_len]; omega) hsz8).mono ?_
          rintro e wF ⟨u, rfl, o4, zF⟩
          have sF := zF.size
          go_wp2_with fail
          go_ret
          exact ⟨_, rfl, by rw [HE.out, ← HM.out]; exact o4.mono (Nat.le_refl _) (by omega), hbx.trans zF⟩

end Go.Proofs.YtehcjdbljdpmbaaDoor

/- Contracts: values that are missing, by the reference; whether an inclusion holds. -/
namespace Go.Proofs.YtehcjdbljdpmbaaDoor
open Go.RowKit
set_option linter.unusedVariables false
set_option linter.unusedSimpArgs false
set_option synthInstance.maxSize 2000
set_option synthInstance.maxHeartbeats 400000

theorem ownT_rows {lo hi vn vc : Nat} {w : World} {ns : ByteArray} {A : Int} {vb : Option Addr} {r : List (List Int)} (h : Own oT lo hi w [.string ns, .int .i64 A, .slice vb vn vc] (ns, A, r)) : Sl rI w vb vn r := by
  obtain ⟨vb2, vn2, vc2, he9, _, _, gr⟩ := rT_open (h.rd reads_T)
  simp at he9
  obtain ⟨rfl, rfl, rfl⟩ := he9
  exact rS_sl gr
theorem has_snoc_no {xs : List Int} {x v : Int} (h : has xs v = false) : has (xs ++ [x]) v = decide (x = v) := by
  rw [Bool.eq_iff_iff]
  simp only [has, decide_eq_true_eq, decide_eq_false_iff_not, List.mem_append, List.mem_singleton] at *
  constructor
  · rintro (h' | h')
    · exact absurd h' h
    · exact h'.symm
  · exact fun h' => .inr h'.symm
theorem has_snoc_yes {xs : List Int} {x v : Int} (h : has xs v = true) : has (xs ++ [x]) v = true := by
  simp only [has, decide_eq_true_eq, List.mem_append] at *
  exact .inl h

set_option maxRecDepth 100000 in
set_option maxHeartbeats 4000000 in
theorem missing_spec (cs ds : List Value) (db : DDb) (x : DIn) (w : World) (h : rDb.rep w cs db) (h' : rIn.rep w ds x) :
    Calls Tryd.prog 30 #[.agg cs.toArray, .agg ds.toArray] w fun e w' => ∃ u, e = .returned u ∧ Own oI w.heap.size w'.heap.size w' [u] (missing db x) ∧ Below w.heap.size w w' := by
  obtain ⟨ub, un, uc, rfl, g1⟩ := rDb_open h
  obtain ⟨rfl, hs0, hi1, hs2, hi3⟩ := rIn_open h'
  have hcv := fun W (hW : Below w.heap.size w W) => validIn_spec _ _ db x W (rDb.mono h hW) (rIn.mono h' hW)
  obtain ⟨m1, c1, m2, c2⟩ := x
  simp only at hs0 hi1 hs2 hi3 hcv
  have HCV := Lib.hid hcv
  have HCK := Lib.hid (fun name W (hW : Below w.heap.size w W) => lookS_any [.slice ub un uc] db name W (rDb.mono h hW))
  clear hcv h h' g1 hs0 hi1 hs2 hi3
  have hb0 : Below w.heap.size w w := Below.refl _ _
  go_enter Tryd.func30, Tryd.ntmps30
  obtain ⟨w1, hw1⟩ : ∃ W, W = w.alloc (.cells #[.slice ub un uc] 49) := ⟨_, rfl⟩
  have z1 : Below w.heap.size w w1 := by rw [hw1]; exact (Below.refl _ _).alloc (Nat.le_refl _) _
  have s1 : w1.heap.size = w.heap.size + 1 := by rw [hw1]; simp
  have hb1 := on hb0 z1
  have b_0 : w1.cell? ⟨w.heap.size, 0, none⟩ = some (.slice ub un uc) := by rw [hw1]; exact box_cell (Below.refl _ _) rfl
  have raw1_b_0 := b_0
  rw [hw1] at raw1_b_0
  obtain ⟨w2, hw2⟩ : ∃ W, W = w1.alloc (.cells #[.string m1, .int .i64 c1, .string m2, .int .i64 c2] 51) := ⟨_, rfl⟩
  have z2 : Below w1.heap.size w1 w2 := by rw [hw2]; exact (Below.refl _ _).alloc (Nat.le_refl _) _
  have s2 : w2.heap.size = w1.heap.size + 1 := by rw [hw2]; simp
  have hb2 := on hb1 z2
  replace b_0 := (z2.cell (p := ⟨w.heap.size, 0, none⟩) (by simp only []; omega)).trans b_0
  have e2 : w1.heap.size = w.heap.size + 1 := by omega
  have x_0 : w2.cell? ⟨w1.heap.size, 0, none⟩ = some (.string m1) := by rw [hw2]; exact box_cell (Below.refl _ _) rfl
  have x_1 : w2.cell? ⟨w1.heap.size, 1, none⟩ = some (.int .i64 c1) := by rw [hw2]; exact box_cell (Below.refl _ _) rfl
  have x_2 : w2.cell? ⟨w1.heap.size, 2, none⟩ = some (.string m2) := by rw [hw2]; exact box_cell (Below.refl _ _) rfl
  have x_3 : w2.cell? ⟨w1.heap.size, 3, none⟩ = some (.int .i64 c2) := by rw [hw2]; exact box_cell (Below.refl _ _) rfl
  rw [e2] at x_0 x_1 x_2 x_3
  have raw2_b_0 := b_0
  have raw2_x_0 := x_0
  have raw2_x_1 := x_1
  have raw2_x_2 := x_2
  have raw2_x_3 := x_3
  rw [hw2, hw1] at raw2_b_0 raw2_x_0 raw2_x_1 raw2_x_2 raw2_x_3
  obtain ⟨w3, hw3⟩ : ∃ W, W = w2.alloc (.cells #[] 3) := ⟨_, rfl⟩
  have z3 : Below w2.heap.size w2 w3 := by rw [hw3]; exact (Below.refl _ _).alloc (Nat.le_refl _) _
  have s3 : w3.heap.size = w2.heap.size + 1 := by rw [hw3]; simp
  have hb3 := on hb2 z3
  replace b_0 := (z3.cell (p := ⟨w.heap.size, 0, none⟩) (by simp only []; omega)).trans b_0
  replace x_0 := (z3.cell (p := ⟨w.heap.size + 1, 0, none⟩) (by simp only []; omega)).trans x_0
  replace x_1 := (z3.cell (p := ⟨w.heap.size + 1, 1, none⟩) (by simp only []; omega)).trans x_1
  replace x_2 := (z3.cell (p := ⟨w.heap.size + 1, 2, none⟩) (by simp only []; omega)).trans x_2
  replace x_3 := (z3.cell (p := ⟨w.heap.size + 1, 3, none⟩) (by simp only []; omega)).trans x_3
  have ho : ∀ S, Acc 3 O.int w2.heap.size S w3.heap.size w3 (.slice (some ⟨w.heap.size + 1 + 1, 0, none⟩) 0 0) [] := fun S => by rw [hw3]; exact Acc.empty (by omega) (by first | (simp; done) | (simp; omega))
  have raw3_b_0 := b_0
  have raw3_x_0 := x_0
  have raw3_x_1 := x_1
  have raw3_x_2 := x_2
  have raw3_x_3 := x_3
  rw [hw3, hw2, hw1] at raw3_b_0 raw3_x_0 raw3_x_1 raw3_x_2 raw3_x_3
  go_wp2_with fail
  rw [← hw1]
  rw [← hw2]
  rw [← hw3]
  clear hw3 hw2 hw1
  clear raw1_b_0 raw2_b_0 raw2_x_0 raw2_x_1 raw2_x_2 raw2_x_3 raw3_b_0 raw3_x_0 raw3_x_1 raw3_x_2 raw3_x_3
  refine (HCV.out _ hb3).mono ?_
  rintro e wA ⟨rfl, zA⟩
  have s4 := zA.size
  have hb4 := on hb3 zA
  replace b_0 := (zA.cell (p := ⟨w.heap.size, 0, none⟩) (by simp only []; omega)).trans b_0
  replace x_0 := (zA.cell (p := ⟨w.heap.size + 1, 0, none⟩) (by simp only []; omega)).trans x_0
  replace x_1 := (zA.cell (p := ⟨w.heap.size + 1, 1, none⟩) (by simp only []; omega)).trans x_1
  replace x_2 := (zA.cell (p := ⟨w.heap.size + 1, 2, none⟩) (by simp only []; omega)).trans x_2
  replace x_3 := (zA.cell (p := ⟨w.heap.size + 1, 3, none⟩) (by simp only []; omega)).trans x_3
  replace ho := fun S => (ho S).below zA (by omega)
  by_cases hv : validIn db (m1, c1, m2, c2) = true
  case neg =>
    replace hv : validIn db (m1, c1, m2, c2) = false := by simpa using hv
    have HE : Hid (missing db (m1, c1, m2, c2) = []) := Lib.hid (by simp [missing, hv])
    have HO := Lib.hid ((ho wA.heap.size).own (B := w.heap.size) (by omega) (by omega) (by omega : _ ≤ wA.heap.size))
    rw [hv]
    go_wp2_with fail
    go_ret
    refine ⟨_, rfl, ?_, hb4⟩
    rw [HE.out]
    first | exact HO.out | (have h9 := HO.out; simpa using h9)
  obtain ⟨hsm1, hsm2, n1, n2, rfl, rfl, hn1, hn2⟩ := validIn_facts hv
  have hok1 := look_okT hsm1
  have hok2 := look_okT hsm2
  have HE : Hid (missing db (m1, (n1 : Int), m2, (n2 : Int)) = missTo (colVals (lookT (look db m1)).2.2 n1) (colVals (lookT (look db m2)).2.2 n2) 10) := Lib.hid (by simp [missing, hv])
  rw [hv]
  clear hv
  have hc1 := fun W hW => HCK.out m1 W hW
  have hc2 := fun W hW => HCK.out m2 W hW
  obtain ⟨t1, ht1⟩ : ∃ t, lookT (look db m1) = t := ⟨_, rfl⟩
  obtain ⟨t2, ht2⟩ : ∃ t, lookT (look db m2) = t := ⟨_, rfl⟩
  rw [ht1] at hok1 hn1 HE
  rw [ht2] at hok2 hn2 HE
  simp only [hsm1, ht1] at hc1
  simp only [hsm2, ht2] at hc2
  obtain ⟨ns, A, r1⟩ := t1
  obtain ⟨ms, B, r2⟩ := t2
  simp only at hn1 hn2 HE hc1 hc2
  have HR1 := Lib.hid hok1.row
  have HR2 := Lib.hid hok2.row
  simp only at HR1 HR2
  have HC1 := Lib.hid hc1
  have HC2 := Lib.hid hc2
  clear hc1 hc2 ht1 ht2 hok1 hok2 hsm1 hsm2 HCK HCV
  go_wp2_with fail
  refine (HC1.out _ hb4).mono ?_
  rintro e wB ⟨vb, vn, vc, rfl, ht1, zB⟩
  have s5 := zB.size
  have hb5 := on hb4 zB
  replace b_0 := (zB.cell (p := ⟨w.heap.size, 0, none⟩) (by simp only []; omega)).trans b_0
  replace x_0 := (zB.cell (p := ⟨w.heap.size + 1, 0, none⟩) (by simp only []; omega)).trans x_0
  replace x_1 := (zB.cell (p := ⟨w.heap.size + 1, 1, none⟩) (by simp only []; omega)).trans x_1
  replace x_2 := (zB.cell (p := ⟨w.heap.size + 1, 2, none⟩) (by simp only []; omega)).trans x_2
  replace x_3 := (zB.cell (p := ⟨w.heap.size + 1, 3, none⟩) (by simp only []; omega)).trans x_3
  replace ho := fun S => (ho S).below zB (by omega)
  have hl1 := (ownT_rows ht1).len
  have hn1s := (ownT_rows ht1).small
  obtain ⟨w6, hw6⟩ : ∃ W, W = wB.alloc (.cells #[.string ns, .int .i64 A, .slice vb vn vc] 82) := ⟨_, rfl⟩
  have z6 : Below wB.heap.size wB w6 := by rw [hw6]; exact (Below.refl _ _).alloc (Nat.le_refl _) _
  have s6 : w6.heap.size = wB.heap.size + 1 := by rw [hw6]; simp
  have hb6 := on hb5 z6
  have old6_b_0 := b_0
  have old6_x_0 := x_0
  have old6_x_1 := x_1
  have old6_x_2 := x_2
  have old6_x_3 := x_3
  replace b_0 := (z6.cell (p := ⟨w.heap.size, 0, none⟩) (by simp only []; omega)).trans b_0
  replace x_0 := (z6.cell (p := ⟨w.heap.size + 1, 0, none⟩) (by simp only []; omega)).trans x_0
  replace x_1 := (z6.cell (p := ⟨w.heap.size + 1, 1, none⟩) (by simp only []; omega)).trans x_1
  replace x_2 := (z6.cell (p := ⟨w.heap.size + 1, 2, none⟩) (by simp only []; omega)).trans x_2
  replace x_3 := (z6.cell (p := ⟨w.heap.size + 1, 3, none⟩) (by simp only []; omega)).trans x_3
  replace ho := fun S => (ho S).below z6 (by omega)
  replace ht1 := ht1.below z6 (by omega)
  have ta_0 : w6.cell? ⟨wB.heap.size, 0, none⟩ = some (.string ns) := by rw [hw6]; exact box_cell (Below.refl _ _) rfl
  have ta_1 : w6.cell? ⟨wB.heap.size, 1, none⟩ = some (.int .i64 A) := by rw [hw6]; exact box_cell (Below.refl _ _) rfl
  have ta_2 : w6.cell? ⟨wB.heap.size, 2, none⟩ = some (.slice vb vn vc) := by rw [hw6]; exact box_cell (Below.refl _ _) rfl
  have raw6_b_0 := b_0
  have raw6_x_0 := x_0
  have raw6_x_1 := x_1
  have raw6_x_2 := x_2
  have raw6_x_3 := x_3
  have raw6_ta_0 := ta_0
  have raw6_ta_1 := ta_1
  have raw6_ta_2 := ta_2
  rw [hw6] at raw6_b_0 raw6_x_0 raw6_x_1 raw6_x_2 raw6_x_3 raw6_ta_0 raw6_ta_1 raw6_ta_2
  go_wp2_with fail
  rw [← hw6]
  clear hw6
  clear old6_b_0 old6_x_0 old6_x_1 old6_x_2 old6_x_3 raw6_b_0 raw6_x_0 raw6_x_1 raw6_x_2 raw6_x_3 raw6_ta_0 raw6_ta_1 raw6_ta_2
  refine (HC2.out _ hb6).mono ?_
  rintro e wC ⟨ub2, un2, uc2, rfl, ht2, zC⟩
  have s7 := zC.size
  have hb7 := on hb6 zC
  replace b_0 := (zC.cell (p := ⟨w.heap.size, 0, none⟩) (by simp only []; omega)).trans b_0
  replace x_0 := (zC.cell (p := ⟨w.heap.size + 1, 0, none⟩) (by simp only []; omega)).trans x_0
  replace x_1 := (zC.cell (p := ⟨w.heap.size + 1, 1, none⟩) (by simp only []; omega)).trans x_1
  replace x_2 := (zC.cell (p := ⟨w.heap.size + 1, 2, none⟩) (by simp only []; omega)).trans x_2
  replace x_3 := (zC.cell (p := ⟨w.heap.size + 1, 3, none⟩) (by simp only []; omega)).trans x_3
  replace ho := fun S => (ho S).below zC (by omega)
  replace ht1 := ht1.below zC (by omega)
  replace ta_0 := (zC.cell (p := ⟨wB.heap.size, 0, none⟩) (by simp only []; omega)).trans ta_0
  replace ta_1 := (zC.cell (p := ⟨wB.heap.size, 1, none⟩) (by simp only []; omega)).trans ta_1
  replace ta_2 := (zC.cell (p := ⟨wB.heap.size, 2, none⟩) (by simp only []; omega)).trans ta_2
  have hl2 := (ownT_rows ht2).len
  have hn2s := (ownT_rows ht2).small
  clear HC1 HC2
  obtain ⟨w8, hw8⟩ : ∃ W, W = wC.alloc (.cells #[.string ms, .int .i64 B, .slice ub2 un2 uc2] 82) := ⟨_, rfl⟩
  have z8 : Below wC.heap.size wC w8 := by rw [hw8]; exact (Below.refl _ _).alloc (Nat.le_refl _) _
  have s8 : w8.heap.size = wC.heap.size + 1 := by rw [hw8]; simp
  have hb8 := on hb7 z8
  have old8_b_0 := b_0
  have old8_x_0 := x_0
  have old8_x_1 := x_1
  have old8_x_2 := x_2
  have old8_x_3 := x_3
  have old8_ta_0 := ta_0
  have old8_ta_1 := ta_1
  have old8_ta_2 := ta_2
  replace b_0 := (z8.cell (p := ⟨w.heap.size, 0, none⟩) (by simp only []; omega)).trans b_0
  replace x_0 := (z8.cell (p := ⟨w.heap.size + 1, 0, none⟩) (by simp only []; omega)).trans x_0
  replace x_1 := (z8.cell (p := ⟨w.heap.size + 1, 1, none⟩) (by simp only []; omega)).trans x_1
  replace x_2 := (z8.cell (p := ⟨w.heap.size + 1, 2, none⟩) (by simp only []; omega)).trans x_2
  replace x_3 := (z8.cell (p := ⟨w.heap.size + 1, 3, none⟩) (by simp only []; omega)).trans x_3
  replace ho := fun S => (ho S).below z8 (by omega)
  replace ht1 := ht1.below z8 (by omega)
  replace ta_0 := (z8.cell (p := ⟨wB.heap.size, 0, none⟩) (by simp only []; omega)).trans ta_0
  replace ta_1 := (z8.cell (p := ⟨wB.heap.size, 1, none⟩) (by simp only []; omega)).trans ta_1
  replace ta_2 := (z8.cell (p := ⟨wB.heap.size, 2, none⟩) (by simp only []; omega)).trans ta_2
  replace ht2 := ht2.below z8 (by omega)
  have tb_0 : w8.cell? ⟨wC.heap.size, 0, none⟩ = some (.string ms) := by rw [hw8]; exact box_cell (Below.refl _ _) rfl
  have tb_1 : w8.cell? ⟨wC.heap.size, 1, none⟩ = some (.int .i64 B) := by rw [hw8]; exact box_cell (Below.refl _ _) rfl
  have tb_2 : w8.cell? ⟨wC.heap.size, 2, none⟩ = some (.slice ub2 un2 uc2) := by rw [hw8]; exact box_cell (Below.refl _ _) rfl
  have raw8_b_0 := b_0
  have raw8_x_0 := x_0
  have raw8_x_1 := x_1
  have raw8_x_2 := x_2
  have raw8_x_3 := x_3
  have raw8_ta_0 := ta_0
  have raw8_ta_1 := ta_1
  have raw8_ta_2 := ta_2
  have raw8_tb_0 := tb_0
  have raw8_tb_1 := tb_1
  have raw8_tb_2 := tb_2
  rw [hw8] at raw8_b_0 raw8_x_0 raw8_x_1 raw8_x_2 raw8_x_3 raw8_ta_0 raw8_ta_1 raw8_ta_2 raw8_tb_0 raw8_tb_1 raw8_tb_2
  go_wp2_with fail
  rw [← hw8]
  clear hw8
  clear old8_b_0 old8_x_0 old8_x_1 old8_x_2 old8_x_3 old8_ta_0 old8_ta_1 old8_ta_2 raw8_b_0 raw8_x_0 raw8_x_1 raw8_x_2 raw8_x_3 raw8_ta_0 raw8_ta_1 raw8_ta_2 raw8_tb_0 raw8_tb_1 raw8_tb_2
  go_loopw [5, 10] (fun v k wr => ∃ j : Nat, j ≤ 10 ∧ k = .int .i64 j ∧ Acc 3 O.int w2.heap.size w8.heap.size wr.heap.size wr v (missTo (colVals r1 n1) (colVals r2 n2) j) ∧ Turn w2.heap.size (w2.heap.size + 1) w8 wr) (fun _ k _ => 10 - (intOf k).toNat)
  case atStart => exact ⟨0, by omega, rfl, (ho _).wide (Nat.le_refl _) (by omega), turn_refl _ _ _⟩
  case round =>
    obtain ⟨j, hj, rfl, hacc, hdr⟩ := hrel
    have hlc := hdr
    obtain ⟨wo, rfl⟩ : ∃ W, W = wr := ⟨_, rfl⟩
    have s9 := hdr.size
    have hb9 := hb8.trans ((hdr.below (by omega)).mono (by omega))
    replace b_0 := (hdr.cell (p := ⟨w.heap.size, 0, none⟩) (by simp only []; omega) (by simp only []; omega)).trans b_0
    replace x_0 := (hdr.cell (p := ⟨w.heap.size + 1, 0, none⟩) (by simp only []; omega) (by simp only []; omega)).trans x_0
    replace x_1 := (hdr.cell (p := ⟨w.heap.size + 1, 1, none⟩) (by simp only []; omega) (by simp only []; omega)).trans x_1
    replace x_2 := (hdr.cell (p := ⟨w.heap.size + 1, 2, none⟩) (by simp only []; omega) (by simp only []; omega)).trans x_2
    replace x_3 := (hdr.cell (p := ⟨w.heap.size + 1, 3, none⟩) (by simp only []; omega) (by simp only []; omega)).trans x_3
    replace ht1 := ht1.turn hdr (by omega)
    replace ta_0 := (hdr.cell (p := ⟨wB.heap.size, 0, none⟩) (by simp only []; omega) (by simp only []; omega)).trans ta_0
    replace ta_1 := (hdr.cell (p := ⟨wB.heap.size, 1, none⟩) (by simp only []; omega) (by simp only []; omega)).trans ta_1
    replace ta_2 := (hdr.cell (p := ⟨wB.heap.size, 2, none⟩) (by simp only []; omega) (by simp only []; omega)).trans ta_2
    replace ht2 := ht2.turn hdr (by omega)
    replace tb_0 := (hdr.cell (p := ⟨wC.heap.size, 0, none⟩) (by simp only []; omega) (by simp only []; omega)).trans tb_0
    replace tb_1 := (hdr.cell (p := ⟨wC.heap.size, 1, none⟩) (by simp only []; omega) (by simp only []; omega)).trans tb_1
    replace tb_2 := (hdr.cell (p := ⟨wC.heap.size, 2, none⟩) (by simp only []; omega) (by simp only []; omega)).trans tb_2
    have t1 := ownT_rows ht1
    have t2 := ownT_rows ht2
    have hT1 : Below wo.heap.size wo wo := Below.refl _ _
    have hT2 : Below wo.heap.size wo wo := Below.refl _ _
    have hml := missTo_len (colVals r1 n1) (colVals r2 n2) j
    by_cases hlt : j < 10
    · have hjj : (j : Int) ≤ 9 := by omega
      have hjd : decide ((j : Int) ≤ 9) = true := decide_eq_true hjj
      go_wp2_with fail
      go_loopw [11, 13] (fun s k wr => ∃ (q : Nat) (b : Bool), q ≤ vn ∧ s = .bool b ∧ k = .int .i64 q ∧ Hid (b = has (colVals (r1.take q) n1) (j : Int)) ∧ Drew wo wr) (fun _ k _ => vn - (intOf k).toNat)
      case atStart => exact ⟨0, false, Nat.zero_le _, rfl, rfl, Lib.hid (by simp [colVals, has]), Drew.refl _⟩
      case round =>
        obtain ⟨q, b, hq, rfl, rfl, hbq, hdr⟩ := hrel
        have hld11 := hdr
        replace hdr : Below wo.heap.size wo wr := hdr.below _
        have s10 := hdr.size
        have hb10 := on hb9 hdr
        replace b_0 := (hdr.cell (p := ⟨w.heap.size, 0, none⟩) (by simp only []; omega)).trans b_0
        replace x_0 := (hdr.cell (p := ⟨w.heap.size + 1, 0, none⟩) (by simp only []; omega)).trans x_0
        replace x_1 := (hdr.cell (p := ⟨w.heap.size + 1, 1, none⟩) (by simp only []; omega)).trans x_1
        replace x_2 := (hdr.cell (p := ⟨w.heap.size + 1, 2, none⟩) (by simp only []; omega)).trans x_2
        replace x_3 := (hdr.cell (p := ⟨w.heap.size + 1, 3, none⟩) (by simp only []; omega)).trans x_3
        replace ta_0 := (hdr.cell (p := ⟨wB.heap.size, 0, none⟩) (by simp only []; omega)).trans ta_0
        replace ta_1 := (hdr.cell (p := ⟨wB.heap.size, 1, none⟩) (by simp only []; omega)).trans ta_1
        replace ta_2 := (hdr.cell (p := ⟨wB.heap.size, 2, none⟩) (by simp only []; omega)).trans ta_2
        replace tb_0 := (hdr.cell (p := ⟨wC.heap.size, 0, none⟩) (by simp only []; omega)).trans tb_0
        replace tb_1 := (hdr.cell (p := ⟨wC.heap.size, 1, none⟩) (by simp only []; omega)).trans tb_1
        replace tb_2 := (hdr.cell (p := ⟨wC.heap.size, 2, none⟩) (by simp only []; omega)).trans tb_2
        replace hT1 := on hT1 hdr
        replace hT2 := on hT2 hdr
        replace hacc := hacc.below hdr (by omega)
        replace hlc := hlc.trans (turn_below hdr (Nat.le_refl _))
        by_cases hltq : q < vn
        · obtain ⟨b1, o1, yb, yn, yc, y, rfl, hcy, hy, iy, _⟩ := t1.row hltq
          have hyA := (HR1.out y (List.mem_of_getElem? hy.out)).1
          have hyl := iy.len
          have hbt1 : b1 < wo.heap.size := cell_lt hcy
          have y0 : wr.cell? ⟨b1, o1 + q, none⟩ = some (.slice yb yn yc) := (hT1.cell (p := ⟨b1, o1 + q, none⟩) hbt1).trans hcy
          obtain ⟨yb1, yo1, yv, hye, hcyv, hyv, hyv1, hyv2⟩ := iy.get (show n1 < yn by omega)
          subst hye
          have hbt2 : yb1 < wo.heap.size := cell_lt hcyv
          have yv0 : wr.cell? ⟨yb1, yo1 + n1, none⟩ = some (.int .i64 yv) := (hT1.cell (p := ⟨yb1, yo1 + n1, none⟩) hbt2).trans hcyv
          have hyn : n1 < yn := by omega
          have HS := Lib.hid (colVals_step (c := n1) hy.out hyv.out)
          clear hcy hcyv iy t1 hyA hyl
          cases b with
          | true =>
            have HN : Hid (true = has (colVals (r1.take (q + 1)) n1) (j : Int)) := Lib.hid (by rw [HS.out, has_snoc_yes hbq.out.symm])
            go_wp2_with fail
            go_quiet (fail)
            go_wp2_with fail
            go_roundw
            case rel => exact ⟨q + 1, true, by omega, rfl, by go_num, HN.out, hld11.step _⟩
            case measure => simp [intOf]; omega
          | false =>
            have HN : Hid (decide (yv = (j : Int)) = has (colVals (r1.take (q + 1)) n1) (j : Int)) := Lib.hid (by rw [HS.out, has_snoc_no hbq.out.symm])
            by_cases hyj : yv = (j : Int)
            · have hd : (yv == (j : Int)) = true := by rw [beq_iff_eq]; exact hyj
              rw [decide_eq_true hyj] at HN
              clear hyj
              go_wp2_with fail
              go_quiet (fail)
              go_wp2_with fail
              go_roundw
              case rel => exact ⟨q + 1, true, by omega, rfl, by go_num, HN.out, hld11.step _⟩
              case measure => simp [intOf]; omega
            · have hd : (yv == (j : Int)) = false := by rw [beq_eq_false_iff_ne]; exact hyj
              rw [decide_eq_false hyj] at HN
              clear hyj
              go_wp2_with fail
              go_quiet (fail)
              go_wp2_with fail
              go_roundw
              case rel => exact ⟨q + 1, false, by omega, rfl, by go_num, HN.out, hld11.step _⟩
              case measure => simp [intOf]; omega
        · have HB11 : Hid (b = has (colVals r1 n1) (j : Int)) := Lib.hid (by rw [hbq.out, List.take_of_length_le (by omega)])
          clear hbq
          obtain ⟨b11, rfl⟩ : ∃ b9, b9 = b := ⟨_, rfl⟩
          obtain ⟨wj, rfl⟩ : ∃ W, W = wr := ⟨_, rfl⟩
          go_wp2_with fail
          go_loopw [12, 14] (fun s k wr => ∃ (q : Nat) (b : Bool), q ≤ un2 ∧ s = .bool b ∧ k = .int .i64 q ∧ Hid (b = has (colVals (r2.take q) n2) (j : Int)) ∧ Drew wj wr) (fun _ k _ => un2 - (intOf k).toNat)
          case atStart => exact ⟨0, false, Nat.zero_le _, rfl, rfl, Lib.hid (by simp [colVals, has]), Drew.refl _⟩
          case round =>
            obtain ⟨q, b, hq, rfl, rfl, hbq, hdr⟩ := hrel
            have hld12 := hdr
            replace hdr : Below wj.heap.size wj wr := hdr.below _
            have s11 := hdr.size
            have hb11 := on hb10 hdr
            replace b_0 := (hdr.cell (p := ⟨w.heap.size, 0, none⟩) (by simp only []; omega)).trans b_0
            replace x_0 := (hdr.cell (p := ⟨w.heap.size + 1, 0, none⟩) (by simp only []; omega)).trans x_0
            replace x_1 := (hdr.cell (p := ⟨w.heap.size + 1, 1, none⟩) (by simp only []; omega)).trans x_1
            replace x_2 := (hdr.cell (p := ⟨w.heap.size + 1, 2, none⟩) (by simp only []; omega)).trans x_2
            replace x_3 := (hdr.cell (p := ⟨w.heap.size + 1, 3, none⟩) (by simp only []; omega)).trans x_3
            replace ta_0 := (hdr.cell (p := ⟨wB.heap.size, 0, none⟩) (by simp only []; omega)).trans ta_0
            replace ta_1 := (hdr.cell (p := ⟨wB.heap.size, 1, none⟩) (by simp only []; omega)).trans ta_1
            replace ta_2 := (hdr.cell (p := ⟨wB.heap.size, 2, none⟩) (by simp only []; omega)).trans ta_2
            replace tb_0 := (hdr.cell (p := ⟨wC.heap.size, 0, none⟩) (by simp only []; omega)).trans tb_0
            replace tb_1 := (hdr.cell (p := ⟨wC.heap.size, 1, none⟩) (by simp only []; omega)).trans tb_1
            replace tb_2 := (hdr.cell (p := ⟨wC.heap.size, 2, none⟩) (by simp only []; omega)).trans tb_2
            replace hT1 := on hT1 hdr
            replace hT2 := on hT2 hdr
            replace hacc := hacc.below hdr (by omega)
            replace hlc := hlc.trans (turn_below hdr (Nat.le_refl _))
            by_cases hltq : q < un2
            · obtain ⟨b1, o1, yb, yn, yc, y, rfl, hcy, hy, iy, _⟩ := t2.row hltq
              have hyA := (HR2.out y (List.mem_of_getElem? hy.out)).1
              have hyl := iy.len
              have hbt1 : b1 < wo.heap.size := cell_lt hcy
              have y0 : wr.cell? ⟨b1, o1 + q, none⟩ = some (.slice yb yn yc) := (hT2.cell (p := ⟨b1, o1 + q, none⟩) hbt1).trans hcy
              obtain ⟨yb1, yo1, yv, hye, hcyv, hyv, hyv1, hyv2⟩ := iy.get (show n2 < yn by omega)
              subst hye
              have hbt2 : yb1 < wo.heap.size := cell_lt hcyv
              have yv0 : wr.cell? ⟨yb1, yo1 + n2, none⟩ = some (.int .i64 yv) := (hT2.cell (p := ⟨yb1, yo1 + n2, none⟩) hbt2).trans hcyv
              have hyn : n2 < yn := by omega
              have HS := Lib.hid (colVals_step (c := n2) hy.out hyv.out)
              clear hcy hcyv iy t2 hyA hyl
              cases b with
              | true =>
                have HN : Hid (true = has (colVals (r2.take (q + 1)) n2) (j : Int)) := Lib.hid (by rw [HS.out, has_snoc_yes hbq.out.symm])
                go_wp2_with fail
                go_quiet (fail)
                go_wp2_with fail
                go_roundw
                case rel => exact ⟨q + 1, true, by omega, rfl, by go_num, HN.out, hld12.step _⟩
                case measure => simp [intOf]; omega
              | false =>
                have HN : Hid (decide (yv = (j : Int)) = has (colVals (r2.take (q + 1)) n2) (j : Int)) := Lib.hid (by rw [HS.out, has_snoc_no hbq.out.symm])
                by_cases hyj : yv = (j : Int)
                · have hd : (yv == (j : Int)) = true := by rw [beq_iff_eq]; exact hyj
                  rw [decide_eq_true hyj] at HN
                  clear hyj
                  go_wp2_with fail
                  go_quiet (fail)
                  go_wp2_with fail
                  go_roundw
                  case rel => exact ⟨q + 1, true, by omega, rfl, by go_num, HN.out, hld12.step _⟩
                  case measure => simp [intOf]; omega
                · have hd : (yv == (j : Int)) = false := by rw [beq_eq_false_iff_ne]; exact hyj
                  rw [decide_eq_false hyj] at HN
                  clear hyj
                  go_wp2_with fail
                  go_quiet (fail)
                  go_wp2_with fail
                  go_roundw
                  case rel => exact ⟨q + 1, false, by omega, rfl, by go_num, HN.out, hld12.step _⟩
                  case measure => simp [intOf]; omega
            · have HB12 : Hid (b = has (colVals r2 n2) (j : Int)) := Lib.hid (by rw [hbq.out, List.take_of_length_le (by omega)])
              clear hbq
              cases b11 with
              | true =>
                cases b with
                | false =>
                  have HS := Lib.hid (missTo_yes HB11.out.symm HB12.out.symm)
                  go_wp2_with ((at_builtin; refine wpList_accI _ _ _ _ _ hacc hlc rfl (by omega) (by omega) ⟨by omega, by omega⟩ (by omega) rfl rfl rfl rfl rfl ?_; intro v' wD hacc' ht' hsz'))
                  rw [← HS.out] at hacc'
                  go_roundw
                  case rel => exact ⟨j + 1, by omega, by go_num, hacc', ht'⟩
                  case measure => simp [intOf]; omega
                | true =>
                  rw [← missTo_no (show (has (colVals r1 n1) (j : Int) && !has (colVals r2 n2) (j : Int)) = false by rw [← HB11.out, ← HB12.out]; rfl)] at hacc
                  have HA := Lib.hid hacc
                  clear hacc
                  go_wp2_with fail
                  go_roundw
                  case rel => exact ⟨j + 1, by omega, by go_num, HA.out.wide (Nat.le_refl _) (by omega), hlc⟩
                  case measure => simp [intOf]; omega
              | false =>
                rw [← missTo_no (show (has (colVals r1 n1) (j : Int) && !has (colVals r2 n2) (j : Int)) = false by rw [← HB11.out]; rfl)] at hacc
                have HA := Lib.hid hacc
                clear hacc
                go_wp2_with fail
                go_roundw
                case rel => exact ⟨j + 1, by omega, by go_num, HA.out.wide (Nat.le_refl _) (by omega), hlc⟩
                case measure => simp [intOf]; omega
    · have hj10 : j = 10 := by omega
      have hjd : decide ((j : Int) ≤ 9) = false := decide_eq_false (by omega)
      have hjn : ¬ (j : Int) ≤ 9 := by omega
      rw [hj10, ← HE.out] at hacc
      obtain ⟨a', n', cap2, rfl⟩ := hacc.form3
      have HO := Lib.hid (hacc.own (B := w.heap.size) (by omega) (by omega) (Nat.le_refl _))
      clear hacc t1 t2 hj10
      go_wp2_with fail
      go_ret
      exact ⟨_, rfl, HO.out, hb9⟩

/-- Whether an inclusion holds. -/
def holdsIn (db : DDb) (x : DIn) : Bool := validIn db x && decide ((missing db x).length = 0)

set_option maxHeartbeats 1000000 in
theorem holdsIn_impl (cs ds : List Value) (db : DDb) (x : DIn) (w : World) (h : rDb.rep w cs db) (h' : rIn.rep w ds x) :
    Calls Tryd.prog 29 #[.agg cs.toArray, .agg ds.toArray] w fun e w' => e = .returned (.bool (holdsIn db x)) ∧ Below w.heap.size w w' := by
  obtain ⟨ub, un, uc, rfl⟩ := rDb_form h
  obtain rfl := rIn_form h'
  have HCV := Lib.hid (fun W (hW : Below w.heap.size w W) => validIn_impl _ _ db x W (rDb.mono h hW) (rIn.mono h' hW))
  have HCK := Lib.hid (fun W (hW : Below w.heap.size w W) => missing_impl _ _ db x W (rDb.mono h hW) (rIn.mono h' hW))
  obtain ⟨m1, c1, m2, c2⟩ := x
  have HV : Hid (holdsIn db (m1, c1, m2, c2) = (validIn db (m1, c1, m2, c2) && decide ((missing db (m1, c1, m2, c2)).length = 0))) := rfl
  obtain ⟨p, hp⟩ : ∃ p, validIn db (m1, c1, m2, c2) = p := ⟨_, rfl⟩
  obtain ⟨l, hl⟩ : ∃ l, missing db (m1, c1, m2, c2) = l := ⟨_, rfl⟩
  rw [hp, hl] at HV
  rw [hp] at HCV
  simp only [hl] at HCK
  clear hp hl h h'
  have hb0 : Below w.heap.size w w := Below.refl _ _
  go_enter Tryd.func29, Tryd.ntmps29
  obtain ⟨w1, hw1⟩ : ∃ W, W = w.alloc (.cells #[.slice ub un uc] 49) := ⟨_, rfl⟩
  have z1 : Below w.heap.size w w1 := by rw [hw1]; exact (Below.refl _ _).alloc (Nat.le_refl _) _
  have s1 : w1.heap.size = w.heap.size + 1 := by rw [hw1]; simp
  have hb1 := on hb0 z1
  have b_0 : w1.cell? ⟨w.heap.size, 0, none⟩ = some (.slice ub un uc) := by rw [hw1]; exact box_cell (Below.refl _ _) rfl
  have raw1_b_0 := b_0
  rw [hw1] at raw1_b_0
  obtain ⟨w2, hw2⟩ : ∃ W, W = w1.alloc (.cells #[.string m1, .int .i64 c1, .string m2, .int .i64 c2] 51) := ⟨_, rfl⟩
  have z2 : Below w1.heap.size w1 w2 := by rw [hw2]; exact (Below.refl _ _).alloc (Nat.le_refl _) _
  have s2 : w2.heap.size = w1.heap.size + 1 := by rw [hw2]; simp
  have hb2 := on hb1 z2
  replace b_0 := (z2.cell (p := ⟨w.heap.size, 0, none⟩) (by simp only []; omega)).trans b_0
  have e2 : w1.heap.size = w.heap.size + 1 := by omega
  have x_0 : w2.cell? ⟨w1.heap.size, 0, none⟩ = some (.string m1) := by rw [hw2]; exact box_cell (Below.refl _ _) rfl
  have x_1 : w2.cell? ⟨w1.heap.size, 1, none⟩ = some (.int .i64 c1) := by rw [hw2]; exact box_cell (Below.refl _ _) rfl
  have x_2 : w2.cell? ⟨w1.heap.size, 2, none⟩ = some (.string m2) := by rw [hw2]; exact box_cell (Below.refl _ _) rfl
  have x_3 : w2.cell? ⟨w1.heap.size, 3, none⟩ = some (.int .i64 c2) := by rw [hw2]; exact box_cell (Below.refl _ _) rfl
  rw [e2] at x_0 x_1 x_2 x_3
  have raw2_b_0 := b_0
  have raw2_x_0 := x_0
  have raw2_x_1 := x_1
  have raw2_x_2 := x_2
  have raw2_x_3 := x_3
  rw [hw2, hw1] at raw2_b_0 raw2_x_0 raw2_x_1 raw2_x_2 raw2_x_3
  go_wp2_with fail
  rw [← hw1]
  rw [← hw2]
  clear hw2 hw1
  clear raw1_b_0 raw2_b_0 raw2_x_0 raw2_x_1 raw2_x_2 raw2_x_3
  refine (HCV.out _ hb2).mono ?_
  rintro e w9 ⟨rfl, z9⟩
  have s3 := z9.size
  have hb3 := on hb2 z9
  replace b_0 := (z9.cell (p := ⟨w.heap.size, 0, none⟩) (by simp only []; omega)).trans b_0
  replace x_0 := (z9.cell (p := ⟨w.heap.size + 1, 0, none⟩) (by simp only []; omega)).trans x_0
  replace x_1 := (z9.cell (p := ⟨w.heap.size + 1, 1, none⟩) (by simp only []; omega)).trans x_1
  replace x_2 := (z9.cell (p := ⟨w.heap.size + 1, 2, none⟩) (by simp only []; omega)).trans x_2
  replace x_3 := (z9.cell (p := ⟨w.heap.size + 1, 3, none⟩) (by simp only []; omega)).trans x_3
  cases p with
  | false =>
    go_wp2_with fail
    go_wp2_with fail
    go_ret
    exact ⟨ret_bool (by rw [HV.out]; rfl), hb3⟩
  | true =>
    go_wp2_with fail
    refine (HCK.out _ hb3).mono ?_
    rintro e w10 ⟨u, rfl, ho, z10⟩
    obtain ⟨vb, vn, vc, rfl⟩ := oI_form1 ho
    have hln := (rI_ints (ho.rd reads_I)).len
    have s4 := z10.size
    have hb4 := on hb3 z10
    replace b_0 := (z10.cell (p := ⟨w.heap.size, 0, none⟩) (by simp only []; omega)).trans b_0
    replace x_0 := (z10.cell (p := ⟨w.heap.size + 1, 0, none⟩) (by simp only []; omega)).trans x_0
    replace x_1 := (z10.cell (p := ⟨w.heap.size + 1, 1, none⟩) (by simp only []; omega)).trans x_1
    replace x_2 := (z10.cell (p := ⟨w.heap.size + 1, 2, none⟩) (by simp only []; omega)).trans x_2
    replace x_3 := (z10.cell (p := ⟨w.heap.size + 1, 3, none⟩) (by simp only []; omega)).trans x_3
    clear ho
    by_cases h0 : vn = 0
    · subst h0
      have HE := Lib.hid (show holdsIn db (m1, c1, m2, c2) = true by rw [HV.out, hln]; rfl)
      go_wp2_with fail
      go_wp2_with fail
      go_ret
      exact ⟨ret_bool HE.out.symm, hb4⟩
    · have HE := Lib.hid (show holdsIn db (m1, c1, m2, c2) = false by rw [HV.out, hln]; simp [h0])
      have hd : ((vn : Int) == 0) = false := by rw [beq_eq_false_iff_ne]; omega
      go_wp2_with fail
      go_wp2_with fail
      go_ret
      exact ⟨ret_bool HE.out.symm, hb4⟩

set_option maxHeartbeats 1000000 in
theorem holdsIn_spec (cs ds : List Value) (db : DDb) (x : DIn) (w : World) (h : rDb.rep w cs db) (h' : rIn.rep w ds x) :
    Calls Tryd.prog 31 #[.agg cs.toArray, .agg ds.toArray] w fun e w' => e = .returned (.bool (holdsIn db x)) ∧ Below w.heap.size w w' := by
  obtain ⟨ub, un, uc, rfl⟩ := rDb_form h
  obtain rfl := rIn_form h'
  have HCV := Lib.hid (fun W (hW : Below w.heap.size w W) => validIn_spec _ _ db x W (rDb.mono h hW) (rIn.mono h' hW))
  have HCK := Lib.hid (fun W (hW : Below w.heap.size w W) => missing_spec _ _ db x W (rDb.mono h hW) (rIn.mono h' hW))
  obtain ⟨m1, c1, m2, c2⟩ := x
  have HV : Hid (holdsIn db (m1, c1, m2, c2) = (validIn db (m1, c1, m2, c2) && decide ((missing db (m1, c1, m2, c2)).length = 0))) := rfl
  obtain ⟨p, hp⟩ : ∃ p, validIn db (m1, c1, m2, c2) = p := ⟨_, rfl⟩
  obtain ⟨l, hl⟩ : ∃ l, missing db (m1, c1, m2, c2) = l := ⟨_, rfl⟩
  rw [hp, hl] at HV
  rw [hp] at HCV
  simp only [hl] at HCK
  clear hp hl h h'
  have hb0 : Below w.heap.size w w := Below.refl _ _
  go_enter Tryd.func31, Tryd.ntmps31
  obtain ⟨w1, hw1⟩ : ∃ W, W = w.alloc (.cells #[.slice ub un uc] 49) := ⟨_, rfl⟩
  have z1 : Below w.heap.size w w1 := by rw [hw1]; exact (Below.refl _ _).alloc (Nat.le_refl _) _
  have s1 : w1.heap.size = w.heap.size + 1 := by rw [hw1]; simp
  have hb1 := on hb0 z1
  have b_0 : w1.cell? ⟨w.heap.size, 0, none⟩ = some (.slice ub un uc) := by rw [hw1]; exact box_cell (Below.refl _ _) rfl
  have raw1_b_0 := b_0
  rw [hw1] at raw1_b_0
  obtain ⟨w2, hw2⟩ : ∃ W, W = w1.alloc (.cells #[.string m1, .int .i64 c1, .string m2, .int .i64 c2] 51) := ⟨_, rfl⟩
  have z2 : Below w1.heap.size w1 w2 := by rw [hw2]; exact (Below.refl _ _).alloc (Nat.le_refl _) _
  have s2 : w2.heap.size = w1.heap.size + 1 := by rw [hw2]; simp
  have hb2 := on hb1 z2
  replace b_0 := (z2.cell (p := ⟨w.heap.size, 0, none⟩) (by simp only []; omega)).trans b_0
  have e2 : w1.heap.size = w.heap.size + 1 := by omega
  have x_0 : w2.cell? ⟨w1.heap.size, 0, none⟩ = some (.string m1) := by rw [hw2]; exact box_cell (Below.refl _ _) rfl
  have x_1 : w2.cell? ⟨w1.heap.size, 1, none⟩ = some (.int .i64 c1) := by rw [hw2]; exact box_cell (Below.refl _ _) rfl
  have x_2 : w2.cell? ⟨w1.heap.size, 2, none⟩ = some (.string m2) := by rw [hw2]; exact box_cell (Below.refl _ _) rfl
  have x_3 : w2.cell? ⟨w1.heap.size, 3, none⟩ = some (.int .i64 c2) := by rw [hw2]; exact box_cell (Below.refl _ _) rfl
  rw [e2] at x_0 x_1 x_2 x_3
  have raw2_b_0 := b_0
  have raw2_x_0 := x_0
  have raw2_x_1 := x_1
  have raw2_x_2 := x_2
  have raw2_x_3 := x_3
  rw [hw2, hw1] at raw2_b_0 raw2_x_0 raw2_x_1 raw2_x_2 raw2_x_3
  go_wp2_with fail
  rw [← hw1]
  rw [← hw2]
  clear hw2 hw1
  clear raw1_b_0 raw2_b_0 raw2_x_0 raw2_x_1 raw2_x_2 raw2_x_3
  refine (HCV.out _ hb2).mono ?_
  rintro e w9 ⟨rfl, z9⟩
  have s3 := z9.size
  have hb3 := on hb2 z9
  replace b_0 := (z9.cell (p := ⟨w.heap.size, 0, none⟩) (by simp only []; omega)).trans b_0
  replace x_0 := (z9.cell (p := ⟨w.heap.size + 1, 0, none⟩) (by simp only []; omega)).trans x_0
  replace x_1 := (z9.cell (p := ⟨w.heap.size + 1, 1, none⟩) (by simp only []; omega)).trans x_1
  replace x_2 := (z9.cell (p := ⟨w.heap.size + 1, 2, none⟩) (by simp only []; omega)).trans x_2
  replace x_3 := (z9.cell (p := ⟨w.heap.size + 1, 3, none⟩) (by simp only []; omega)).trans x_3
  cases p with
  | false =>
    go_wp2_with fail
    go_wp2_with fail
    go_ret
    exact ⟨ret_bool (by rw [HV.out]; rfl), hb3⟩
  | true =>
    go_wp2_with fail
    refine (HCK.out _ hb3).mono ?_
    rintro e w10 ⟨u, rfl, ho, z10⟩
    obtain ⟨vb, vn, vc, rfl⟩ := oI_form1 ho
    have hln := (rI_ints (ho.rd reads_I)).len
    have s4 := z10.size
    have hb4 := on hb3 z10
    replace b_0 := (z10.cell (p := ⟨w.heap.size, 0, none⟩) (by simp only []; omega)).trans b_0
    replace x_0 := (z10.cell (p := ⟨w.heap.size + 1, 0, none⟩) (by simp only []; omega)).trans x_0
    replace x_1 := (z10.cell (p := ⟨w.heap.size + 1, 1, none⟩) (by simp only []; omega)).trans x_1
    replace x_2 := (z10.cell (p := ⟨w.heap.size + 1, 2, none⟩) (by simp only []; omega)).trans x_2
    replace x_3 := (z10.cell (p := ⟨w.heap.size + 1, 3, none⟩) (by simp only []; omega)).trans x_3
    clear ho
    by_cases h0 : vn = 0
    · subst h0
      have HE := Lib.hid (show holdsIn db (m1, c1, m2, c2) = true by rw [HV.out, hln]; rfl)
      go_wp2_with fail
      go_wp2_with fail
      go_ret
      exact ⟨ret_bool HE.out.symm, hb4⟩
    · have HE := Lib.hid (show holdsIn db (m1, c1, m2, c2) = false by rw [HV.out, hln]; simp [h0])
      have hd : ((vn : Int) == 0) = false := by rw [beq_eq_false_iff_ne]; omega
      go_wp2_with fail
      go_wp2_with fail
      go_ret
      exact ⟨ret_bool HE.out.symm, hb4⟩

end Go.Proofs.YtehcjdbljdpmbaaDoor
