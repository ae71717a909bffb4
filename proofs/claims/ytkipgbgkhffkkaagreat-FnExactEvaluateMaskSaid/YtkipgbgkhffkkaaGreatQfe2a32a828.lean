/- Texts joined for one claim: EvalQ. -/
import Derived.Test.YtkipgbgkhffkkaaGreatQ59d2f0979e

/- Contracts: EvaluateMask by the program, SubquerySize both ways. -/
namespace Go.Proofs.YtkipgbgkhffkkaaGreat
open Go.RowKit
set_option linter.unusedVariables false
set_option linter.unusedSimpArgs false
set_option synthInstance.maxSize 2000
set_option synthInstance.maxHeartbeats 400000

set_option maxRecDepth 100000 in
set_option maxHeartbeats 4000000 in
theorem eval_impl (cs ds : List Value) (db : DDb) (x : DQ) (k : Int) (w : World) (h : rDb.rep w cs db) (h' : rQ.rep w ds x) (hk : I64 k) :
    Calls Tryz.prog 21 #[.agg cs.toArray, .agg ds.toArray, .int .i64 k] w fun e w' => ∃ us, e = .returned (.tuple #[.agg us.toArray, .bool (evalOk db x k)]) ∧ Own oAn w.heap.size w'.heap.size w' us (evalM db x k) ∧ Below w.heap.size w w' := by
  have HQF := Lib.hid (fun W (hW : Below w.heap.size w W) => queryFor_impl cs ds db x W (rDb.mono h hW) (rQ.mono h' hW))
  have HFM := Lib.hid (fun W (hW : Below w.heap.size w W) => fullMask_impl ds x W (rQ.mono h' hW))
  have HE0 : Hid (evalOk db x k = false → evalM db x k = ([], [])) := Lib.hid evalM_no
  have HE1 : Hid (evalOk db x k = true → ∃ K : Nat, k = K ∧ evalM db x k = evalK db x K ∧ ∀ W, Below w.heap.size w W → Calls Tryz.prog 49 #[.agg cs.toArray, .agg ds.toArray, .int .i64 (K : Int)] W fun e w' => ∃ us, e = .returned (.agg us.toArray) ∧ Own oAn W.heap.size w'.heap.size w' us (evalK db x K) ∧ Below W.heap.size W w') := Lib.hid (fun h9 => by
    obtain ⟨hf, hv, K, rfl, hK1, hK2, hmo⟩ := evalOk_valid h9
    obtain ⟨n, hq⟩ := QOk.of hv
    exact ⟨K, rfl, evalM_yes h9, fun W hW => evaluate_any cs ds db x K n W (rDb.mono h hW) (rQ.mono h' hW) hf hq hK2⟩)
  obtain ⟨ub, un, uc, rfl, g1⟩ := rDb_open h
  obtain ⟨qb, qn, qc, rfl, hi2, gq⟩ := rQ_open h'
  have HEO : Hid (evalOk db x k = (queryFor db x && betw k 1 (fullMask x))) := rfl
  obtain ⟨ok, hok⟩ : ∃ ok, evalOk db x k = ok := ⟨_, rfl⟩
  obtain ⟨E, hE⟩ : ∃ E, evalM db x k = E := ⟨_, rfl⟩
  obtain ⟨qf, hqf⟩ : ∃ qf, queryFor db x = qf := ⟨_, rfl⟩
  obtain ⟨fm, hfm⟩ : ∃ fm, fullMask x = fm := ⟨_, rfl⟩
  rw [hok, hE] at HE0 HE1
  rw [hok, hqf, hfm] at HEO
  rw [hqf] at HQF
  rw [hfm] at HFM
  rw [hok, hE]
  obtain ⟨vq, xs⟩ := x
  simp only at hi2 gq HE1
  clear h h' g1 gq hok hE hqf hfm
  have hb0 : Below w.heap.size w w := Below.refl _ _
  go_enter Tryz.func21, Tryz.ntmps21
  obtain ⟨w1, hw1⟩ : ∃ W, W = w.alloc (.cells #[.slice ub un uc] 34) := ⟨_, rfl⟩
  have z1 : Below w.heap.size w w1 := by rw [hw1]; exact (Below.refl _ _).alloc (Nat.le_refl _) _
  have s1 : w1.heap.size = w.heap.size + 1 := by rw [hw1]; simp
  have hb1 := on hb0 z1
  have b_0 : w1.cell? ⟨w.heap.size, 0, none⟩ = some (.slice ub un uc) := by rw [hw1]; exact box_cell (Below.refl _ _) rfl
  have b_f0 : w1.frozen? ⟨w.heap.size, 0, none⟩ = false := by rw [hw1]; exact box_frozen (Below.refl _ _)
  have raw1_b_0 := b_0
  rw [hw1] at raw1_b_0
  obtain ⟨w2, hw2⟩ : ∃ W, W = w1.alloc (.cells #[.int .i64 vq, .slice qb qn qc] 38) := ⟨_, rfl⟩
  have z2 : Below w1.heap.size w1 w2 := by rw [hw2]; exact (Below.refl _ _).alloc (Nat.le_refl _) _
  have s2 : w2.heap.size = w1.heap.size + 1 := by rw [hw2]; simp
  have hb2 := on hb1 z2
  replace b_0 := (z2.cell (p := ⟨w.heap.size, 0, none⟩) (by simp only []; omega)).trans b_0
  replace b_f0 := (z2.frozen (p := ⟨w.heap.size, 0, none⟩) (by simp only []; omega)).trans b_f0
  have e2 : w1.heap.size = w.heap.size + 1 := by omega
  have q_0 : w2.cell? ⟨w1.heap.size, 0, none⟩ = some (.int .i64 vq) := by rw [hw2]; exact box_cell (Below.refl _ _) rfl
  have q_1 : w2.cell? ⟨w1.heap.size, 1, none⟩ = some (.slice qb qn qc) := by rw [hw2]; exact box_cell (Below.refl _ _) rfl
  rw [e2] at q_0 q_1
  have q_f0 : w2.frozen? ⟨w1.heap.size, 0, none⟩ = false := by rw [hw2]; exact box_frozen (Below.refl _ _)
  have q_f1 : w2.frozen? ⟨w1.heap.size, 1, none⟩ = false := by rw [hw2]; exact box_frozen (Below.refl _ _)
  rw [e2] at q_f0 q_f1
  have raw2_b_0 := b_0
  have raw2_q_0 := q_0
  have raw2_q_1 := q_1
  rw [hw2, hw1] at raw2_b_0 raw2_q_0 raw2_q_1
  obtain ⟨w3, hw3⟩ : ∃ W, W = w2.alloc (.cells #[.slice none 0 0, .slice none 0 0] 49) := ⟨_, rfl⟩
  have z3 : Below w2.heap.size w2 w3 := by rw [hw3]; exact (Below.refl _ _).alloc (Nat.le_refl _) _
  have s3 : w3.heap.size = w2.heap.size + 1 := by rw [hw3]; simp
  have hb3 := on hb2 z3
  replace b_0 := (z3.cell (p := ⟨w.heap.size, 0, none⟩) (by simp only []; omega)).trans b_0
  replace b_f0 := (z3.frozen (p := ⟨w.heap.size, 0, none⟩) (by simp only []; omega)).trans b_f0
  replace q_0 := (z3.cell (p := ⟨w.heap.size + 1, 0, none⟩) (by simp only []; omega)).trans q_0
  replace q_1 := (z3.cell (p := ⟨w.heap.size + 1, 1, none⟩) (by simp only []; omega)).trans q_1
  replace q_f0 := (z3.frozen (p := ⟨w.heap.size + 1, 0, none⟩) (by simp only []; omega)).trans q_f0
  replace q_f1 := (z3.frozen (p := ⟨w.heap.size + 1, 1, none⟩) (by simp only []; omega)).trans q_f1
  have e3 : w2.heap.size = w.heap.size + 1 + 1 := by omega
  have r_0 : w3.cell? ⟨w2.heap.size, 0, none⟩ = some (.slice none 0 0) := by rw [hw3]; exact box_cell (Below.refl _ _) rfl
  have r_1 : w3.cell? ⟨w2.heap.size, 1, none⟩ = some (.slice none 0 0) := by rw [hw3]; exact box_cell (Below.refl _ _) rfl
  rw [e3] at r_0 r_1
  have r_f0 : w3.frozen? ⟨w2.heap.size, 0, none⟩ = false := by rw [hw3]; exact box_frozen (Below.refl _ _)
  have r_f1 : w3.frozen? ⟨w2.heap.size, 1, none⟩ = false := by rw [hw3]; exact box_frozen (Below.refl _ _)
  rw [e3] at r_f0 r_f1
  have raw3_b_0 := b_0
  have raw3_q_0 := q_0
  have raw3_q_1 := q_1
  have raw3_r_0 := r_0
  have raw3_r_1 := r_1
  rw [hw3, hw2, hw1] at raw3_b_0 raw3_q_0 raw3_q_1 raw3_r_0 raw3_r_1
  go_wp2_with fail
  rw [← hw1]
  rw [← hw2]
  rw [← hw3]
  clear hw3 hw2 hw1
  clear raw1_b_0 raw2_b_0 raw2_q_0 raw2_q_1 raw3_b_0 raw3_q_0 raw3_q_1 raw3_r_0 raw3_r_1
  refine (HQF.out _ hb3).mono ?_
  rintro e w7 ⟨rfl, z7⟩
  have s4 := z7.size
  have hb4 := on hb3 z7
  replace b_0 := (z7.cell (p := ⟨w.heap.size, 0, none⟩) (by simp only []; omega)).trans b_0
  replace b_f0 := (z7.frozen (p := ⟨w.heap.size, 0, none⟩) (by simp only []; omega)).trans b_f0
  replace q_0 := (z7.cell (p := ⟨w.heap.size + 1, 0, none⟩) (by simp only []; omega)).trans q_0
  replace q_1 := (z7.cell (p := ⟨w.heap.size + 1, 1, none⟩) (by simp only []; omega)).trans q_1
  replace q_f0 := (z7.frozen (p := ⟨w.heap.size + 1, 0, none⟩) (by simp only []; omega)).trans q_f0
  replace q_f1 := (z7.frozen (p := ⟨w.heap.size + 1, 1, none⟩) (by simp only []; omega)).trans q_f1
  replace r_0 := (z7.cell (p := ⟨w.heap.size + 1 + 1, 0, none⟩) (by simp only []; omega)).trans r_0
  replace r_1 := (z7.cell (p := ⟨w.heap.size + 1 + 1, 1, none⟩) (by simp only []; omega)).trans r_1
  replace r_f0 := (z7.frozen (p := ⟨w.heap.size + 1 + 1, 0, none⟩) (by simp only []; omega)).trans r_f0
  replace r_f1 := (z7.frozen (p := ⟨w.heap.size + 1 + 1, 1, none⟩) (by simp only []; omega)).trans r_f1
  cases qf with
  | false =>
    have hkf : ok = false := by rw [HEO.out]; rfl
    subst hkf
    have HE := Lib.hid (HE0.out rfl)
    clear HE0 HE1 HEO
    go_wp2_with fail
    refine bodyPost_ret (v := .tuple #[.agg #[.slice none 0 0, .slice none 0 0], .bool false]) (by simp [results, Tryz.results21, go_sem, r_0, r_1, r_f0, r_f1]) rfl ⟨_, rfl, ?_, ?_⟩
    · rw [HE.out]
      exact oAn_mk (x := ([], [])) (l0 := w.heap.size) (m0 := w.heap.size) (l1 := w.heap.size) (m1 := w.heap.size) own_nil_S own_nil_S (by omega) (by simp [World.setCell]; omega) (by omega) (by simp [World.setCell]; omega) (by omega)
    · repeat (refine Below.setCell ?_ (by simp only []; omega) _)
      exact hb4
  | true =>
    go_wp2_with fail
    refine (HFM.out _ hb4).mono ?_
    rintro e w8 ⟨rfl, z8⟩
    have s5 := z8.size
    have hb5 := on hb4 z8
    replace b_0 := (z8.cell (p := ⟨w.heap.size, 0, none⟩) (by simp only []; omega)).trans b_0
    replace b_f0 := (z8.frozen (p := ⟨w.heap.size, 0, none⟩) (by simp only []; omega)).trans b_f0
    replace q_0 := (z8.cell (p := ⟨w.heap.size + 1, 0, none⟩) (by simp only []; omega)).trans q_0
    replace q_1 := (z8.cell (p := ⟨w.heap.size + 1, 1, none⟩) (by simp only []; omega)).trans q_1
    replace q_f0 := (z8.frozen (p := ⟨w.heap.size + 1, 0, none⟩) (by simp only []; omega)).trans q_f0
    replace q_f1 := (z8.frozen (p := ⟨w.heap.size + 1, 1, none⟩) (by simp only []; omega)).trans q_f1
    replace r_0 := (z8.cell (p := ⟨w.heap.size + 1 + 1, 0, none⟩) (by simp only []; omega)).trans r_0
    replace r_1 := (z8.cell (p := ⟨w.heap.size + 1 + 1, 1, none⟩) (by simp only []; omega)).trans r_1
    replace r_f0 := (z8.frozen (p := ⟨w.heap.size + 1 + 1, 0, none⟩) (by simp only []; omega)).trans r_f0
    replace r_f1 := (z8.frozen (p := ⟨w.heap.size + 1 + 1, 1, none⟩) (by simp only []; omega)).trans r_f1
    have hin := within_any k 1 fm w8
    obtain ⟨bt, hbt⟩ : ∃ bt, betw k 1 fm = bt := ⟨_, rfl⟩
    rw [hbt] at hin HEO
    have HIN := Lib.hid hin
    clear hin hbt
    go_wp2_with fail
    refine HIN.out.mono ?_
    rintro e w' ⟨rfl, rfl⟩
    cases bt with
    | false =>
      have hkf : ok = false := by rw [HEO.out]; rfl
      subst hkf
      have HE := Lib.hid (HE0.out rfl)
      clear HE0 HE1 HEO
      go_wp2_with fail
      refine bodyPost_ret (v := .tuple #[.agg #[.slice none 0 0, .slice none 0 0], .bool false]) (by simp [results, Tryz.results21, go_sem, r_0, r_1, r_f0, r_f1]) rfl ⟨_, rfl, ?_, ?_⟩
      · rw [HE.out]
        exact oAn_mk (x := ([], [])) (l0 := w.heap.size) (m0 := w.heap.size) (l1 := w.heap.size) (m1 := w.heap.size) own_nil_S own_nil_S (by omega) (by simp [World.setCell]; omega) (by omega) (by simp [World.setCell]; omega) (by omega)
      · repeat (refine Below.setCell ?_ (by simp only []; omega) _)
        exact hb5
    | true =>
      have hkt : ok = true := by rw [HEO.out]; rfl
      subst hkt
      obtain ⟨K, rfl, hEK, hev⟩ := HE1.out rfl
      have HEV := Lib.hid hev
      have HEK := Lib.hid hEK
      clear HE0 HE1 HEO hev hEK HIN
      go_wp2_with fail
      refine (HEV.out _ hb5).mono ?_
      rintro e w9 ⟨us, rfl, oa, z9⟩
      obtain ⟨vb, vn, vc, sb, sn, sc, rfl⟩ := oAn_form oa
      have s6 := z9.size
      have hb6 := on hb5 z9
      replace b_0 := (z9.cell (p := ⟨w.heap.size, 0, none⟩) (by simp only []; omega)).trans b_0
      replace b_f0 := (z9.frozen (p := ⟨w.heap.size, 0, none⟩) (by simp only []; omega)).trans b_f0
      replace q_0 := (z9.cell (p := ⟨w.heap.size + 1, 0, none⟩) (by simp only []; omega)).trans q_0
      replace q_1 := (z9.cell (p := ⟨w.heap.size + 1, 1, none⟩) (by simp only []; omega)).trans q_1
      replace q_f0 := (z9.frozen (p := ⟨w.heap.size + 1, 0, none⟩) (by simp only []; omega)).trans q_f0
      replace q_f1 := (z9.frozen (p := ⟨w.heap.size + 1, 1, none⟩) (by simp only []; omega)).trans q_f1
      replace r_0 := (z9.cell (p := ⟨w.heap.size + 1 + 1, 0, none⟩) (by simp only []; omega)).trans r_0
      replace r_1 := (z9.cell (p := ⟨w.heap.size + 1 + 1, 1, none⟩) (by simp only []; omega)).trans r_1
      replace r_f0 := (z9.frozen (p := ⟨w.heap.size + 1 + 1, 0, none⟩) (by simp only []; omega)).trans r_f0
      replace r_f1 := (z9.frozen (p := ⟨w.heap.size + 1 + 1, 1, none⟩) (by simp only []; omega)).trans r_f1
      have HOA := Lib.hid oa
      clear oa
      go_wp2_with fail
      refine bodyPost_ret (v := .tuple #[.agg #[.slice vb vn vc, .slice sb sn sc], .bool true]) (by simp [results, Tryz.results21, go_sem, r_0, r_1, r_f0, r_f1]) rfl ⟨_, rfl, ?_, ?_⟩
      · rw [HEK.out]
        refine Own.mono (lo := w8.heap.size) (hi := w9.heap.size) ?_ (by omega) (by simp [World.setCell])
        repeat (refine Own.setOut ?_ rfl (by simp only []; omega))
        exact HOA.out
      · repeat (refine Below.setCell ?_ (by simp only []; omega) _)
        exact hb6

/-- SubquerySize. -/
def subSize (db : DDb) (q : DQ) (k : Int) : Int := if evalOk db q k then ((evalM db q k).2.length : Int) else -1

set_option maxHeartbeats 1000000 in
theorem subSize_spec (cs ds : List Value) (db : DDb) (x : DQ) (k : Int) (w : World) (h : rDb.rep w cs db) (h' : rQ.rep w ds x) (hk : I64 k) :
    Calls Tryz.prog 31 #[.agg cs.toArray, .agg ds.toArray, .int .i64 k] w fun e w' => e = .returned (.int .i64 (subSize db x k)) ∧ Below w.heap.size w w' := by
  have HEV := Lib.hid (fun W (hW : Below w.heap.size w W) => eval_spec cs ds db x k W (rDb.mono h hW) (rQ.mono h' hW) hk)
  obtain ⟨ub, un, uc, rfl⟩ := rDb_form h
  obtain ⟨qb, qn, qc, rfl⟩ := rQ_form h'
  have HS : Hid (subSize db x k = if evalOk db x k then ((evalM db x k).2.length : Int) else -1) := rfl
  obtain ⟨ok, hok⟩ : ∃ ok, evalOk db x k = ok := ⟨_, rfl⟩
  obtain ⟨E, hE⟩ : ∃ E, evalM db x k = E := ⟨_, rfl⟩
  rw [hok, hE] at HS
  simp only [hok, hE] at HEV
  obtain ⟨vq, xs⟩ := x
  clear h h' hok hE
  have hb0 : Below w.heap.size w w := Below.refl _ _
  go_enter Tryz.func31, Tryz.ntmps31
  obtain ⟨w1, hw1⟩ : ∃ W, W = w.alloc (.cells #[.slice ub un uc] 34) := ⟨_, rfl⟩
  have z1 : Below w.heap.size w w1 := by rw [hw1]; exact (Below.refl _ _).alloc (Nat.le_refl _) _
  have s1 : w1.heap.size = w.heap.size + 1 := by rw [hw1]; simp
  have hb1 := on hb0 z1
  have b_0 : w1.cell? ⟨w.heap.size, 0, none⟩ = some (.slice ub un uc) := by rw [hw1]; exact box_cell (Below.refl _ _) rfl
  have raw1_b_0 := b_0
  rw [hw1] at raw1_b_0
  obtain ⟨w2, hw2⟩ : ∃ W, W = w1.alloc (.cells #[.int .i64 vq, .slice qb qn qc] 38) := ⟨_, rfl⟩
  have z2 : Below w1.heap.size w1 w2 := by rw [hw2]; exact (Below.refl _ _).alloc (Nat.le_refl _) _
  have s2 : w2.heap.size = w1.heap.size + 1 := by rw [hw2]; simp
  have hb2 := on hb1 z2
  replace b_0 := (z2.cell (p := ⟨w.heap.size, 0, none⟩) (by simp only []; omega)).trans b_0
  have e2 : w1.heap.size = w.heap.size + 1 := by omega
  have q_0 : w2.cell? ⟨w1.heap.size, 0, none⟩ = some (.int .i64 vq) := by rw [hw2]; exact box_cell (Below.refl _ _) rfl
  have q_1 : w2.cell? ⟨w1.heap.size, 1, none⟩ = some (.slice qb qn qc) := by rw [hw2]; exact box_cell (Below.refl _ _) rfl
  rw [e2] at q_0 q_1
  have raw2_b_0 := b_0
  have raw2_q_0 := q_0
  have raw2_q_1 := q_1
  rw [hw2, hw1] at raw2_b_0 raw2_q_0 raw2_q_1
  go_wp2_with fail
  rw [← hw1]
  rw [← hw2]
  clear hw2 hw1
  clear raw1_b_0 raw2_b_0 raw2_q_0 raw2_q_1
  refine (HEV.out _ hb2).mono ?_
  rintro e w7 ⟨us, rfl, oa, z7⟩
  obtain ⟨vb, vn, vc, sb, sn, sc, rfl⟩ := oAn_form oa
  have s3 := z7.size
  have hb3 := on hb2 z7
  replace b_0 := (z7.cell (p := ⟨w.heap.size, 0, none⟩) (by simp only []; omega)).trans b_0
  replace q_0 := (z7.cell (p := ⟨w.heap.size + 1, 0, none⟩) (by simp only []; omega)).trans q_0
  replace q_1 := (z7.cell (p := ⟨w.heap.size + 1, 1, none⟩) (by simp only []; omega)).trans q_1
  obtain ⟨_, _, _, _, _, _, he9, _, gs⟩ := rAn_open (oa.rd reads_An)
  simp at he9
  obtain ⟨⟨rfl, rfl, rfl⟩, rfl, rfl, rfl⟩ := he9
  have hsl := (rS_sl gs).len
  clear oa gs
  obtain ⟨w4, hw4⟩ : ∃ W, W = w7.alloc (.cells #[.slice vb vn vc, .slice sb sn sc] 49) := ⟨_, rfl⟩
  have z4 : Below w7.heap.size w7 w4 := by rw [hw4]; exact (Below.refl _ _).alloc (Nat.le_refl _) _
  have s4 : w4.heap.size = w7.heap.size + 1 := by rw [hw4]; simp
  have hb4 := on hb3 z4
  have old4_b_0 := b_0
  have old4_q_0 := q_0
  have old4_q_1 := q_1
  replace b_0 := (z4.cell (p := ⟨w.heap.size, 0, none⟩) (by simp only []; omega)).trans b_0
  replace q_0 := (z4.cell (p := ⟨w.heap.size + 1, 0, none⟩) (by simp only []; omega)).trans q_0
  replace q_1 := (z4.cell (p := ⟨w.heap.size + 1, 1, none⟩) (by simp only []; omega)).trans q_1
  have a_0 : w4.cell? ⟨w7.heap.size, 0, none⟩ = some (.slice vb vn vc) := by rw [hw4]; exact box_cell (Below.refl _ _) rfl
  have a_1 : w4.cell? ⟨w7.heap.size, 1, none⟩ = some (.slice sb sn sc) := by rw [hw4]; exact box_cell (Below.refl _ _) rfl
  have raw4_b_0 := b_0
  have raw4_q_0 := q_0
  have raw4_q_1 := q_1
  have raw4_a_0 := a_0
  have raw4_a_1 := a_1
  rw [hw4] at raw4_b_0 raw4_q_0 raw4_q_1 raw4_a_0 raw4_a_1
  cases ok with
  | false =>
    have HE := Lib.hid (show subSize db (vq, xs) k = -1 by rw [HS.out]; rfl)
    go_wp2_with fail
    rw [← hw4]
    clear hw4
    clear old4_b_0 old4_q_0 old4_q_1 raw4_b_0 raw4_q_0 raw4_q_1 raw4_a_0 raw4_a_1
    go_wp2_with fail
    go_ret
    exact ⟨ret_int HE.out.symm, hb4⟩
  | true =>
    have HE := Lib.hid (show subSize db (vq, xs) k = (sn : Int) by rw [HS.out, if_pos rfl, hsl])
    go_wp2_with fail
    rw [← hw4]
    clear hw4
    clear old4_b_0 old4_q_0 old4_q_1 raw4_b_0 raw4_q_0 raw4_q_1 raw4_a_0 raw4_a_1
    go_wp2_with fail
    go_ret
    exact ⟨ret_int HE.out.symm, hb4⟩

set_option maxHeartbeats 1000000 in
theorem subSize_impl (cs ds : List Value) (db : DDb) (x : DQ) (k : Int) (w : World) (h : rDb.rep w cs db) (h' : rQ.rep w ds x) (hk : I64 k) :
    Calls Tryz.prog 30 #[.agg cs.toArray, .agg ds.toArray, .int .i64 k] w fun e w' => e = .returned (.int .i64 (subSize db x k)) ∧ Below w.heap.size w w' := by
  have HEV := Lib.hid (fun W (hW : Below w.heap.size w W) => eval_impl cs ds db x k W (rDb.mono h hW) (rQ.mono h' hW) hk)
  obtain ⟨ub, un, uc, rfl⟩ := rDb_form h
  obtain ⟨qb, qn, qc, rfl⟩ := rQ_form h'
  have HS : Hid (subSize db x k = if evalOk db x k then ((evalM db x k).2.length : Int) else -1) := rfl
  obtain ⟨ok, hok⟩ : ∃ ok, evalOk db x k = ok := ⟨_, rfl⟩
  obtain ⟨E, hE⟩ : ∃ E, evalM db x k = E := ⟨_, rfl⟩
  rw [hok, hE] at HS
  simp only [hok, hE] at HEV
  obtain ⟨vq, xs⟩ := x
  clear h h' hok hE
  have hb0 : Below w.heap.size w w := Below.refl _ _
  go_enter Tryz.func30, Tryz.ntmps30
  obtain ⟨w1, hw1⟩ : ∃ W, W = w.alloc (.cells #[.slice ub un uc] 34) := ⟨_, rfl⟩
  have z1 : Below w.heap.size w w1 := by rw [hw1]; exact (Below.refl _ _).alloc (Nat.le_refl _) _
  have s1 : w1.heap.size = w.heap.size + 1 := by rw [hw1]; simp
  have hb1 := on hb0 z1
  have b_0 : w1.cell? ⟨w.heap.size, 0, none⟩ = some (.slice ub un uc) := by rw [hw1]; exact box_cell (Below.refl _ _) rfl
  have raw1_b_0 := b_0
  rw [hw1] at raw1_b_0
  obtain ⟨w2, hw2⟩ : ∃ W, W = w1.alloc (.cells #[.int .i64 vq, .slice qb qn qc] 38) := ⟨_, rfl⟩
  have z2 : Below w1.heap.size w1 w2 := by rw [hw2]; exact (Below.refl _ _).alloc (Nat.le_refl _) _
  have s2 : w2.heap.size = w1.heap.size + 1 := by rw [hw2]; simp
  have hb2 := on hb1 z2
  replace b_0 := (z2.cell (p := ⟨w.heap.size, 0, none⟩) (by simp only []; omega)).trans b_0
  have e2 : w1.heap.size = w.heap.size + 1 := by omega
  have q_0 : w2.cell? ⟨w1.heap.size, 0, none⟩ = some (.int .i64 vq) := by rw [hw2]; exact box_cell (Below.refl _ _) rfl
  have q_1 : w2.cell? ⟨w1.heap.size, 1, none⟩ = some (.slice qb qn qc) := by rw [hw2]; exact box_cell (Below.refl _ _) rfl
  rw [e2] at q_0 q_1
  have raw2_b_0 := b_0
  have raw2_q_0 := q_0
  have raw2_q_1 := q_1
  rw [hw2, hw1] at raw2_b_0 raw2_q_0 raw2_q_1
  go_wp2_with fail
  rw [← hw1]
  rw [← hw2]
  clear hw2 hw1
  clear raw1_b_0 raw2_b_0 raw2_q_0 raw2_q_1
  refine (HEV.out _ hb2).mono ?_
  rintro e w7 ⟨us, rfl, oa, z7⟩
  obtain ⟨vb, vn, vc, sb, sn, sc, rfl⟩ := oAn_form oa
  have s3 := z7.size
  have hb3 := on hb2 z7
  replace b_0 := (z7.cell (p := ⟨w.heap.size, 0, none⟩) (by simp only []; omega)).trans b_0
  replace q_0 := (z7.cell (p := ⟨w.heap.size + 1, 0, none⟩) (by simp only []; omega)).trans q_0
  replace q_1 := (z7.cell (p := ⟨w.heap.size + 1, 1, none⟩) (by simp only []; omega)).trans q_1
  obtain ⟨_, _, _, _, _, _, he9, _, gs⟩ := rAn_open (oa.rd reads_An)
  simp at he9
  obtain ⟨⟨rfl, rfl, rfl⟩, rfl, rfl, rfl⟩ := he9
  have hsl := (rS_sl gs).len
  clear oa gs
  obtain ⟨w4, hw4⟩ : ∃ W, W = w7.alloc (.cells #[.slice vb vn vc, .slice sb sn sc] 49) := ⟨_, rfl⟩
  have z4 : Below w7.heap.size w7 w4 := by rw [hw4]; exact (Below.refl _ _).alloc (Nat.le_refl _) _
  have s4 : w4.heap.size = w7.heap.size + 1 := by rw [hw4]; simp
  have hb4 := on hb3 z4
  have old4_b_0 := b_0
  have old4_q_0 := q_0
  have old4_q_1 := q_1
  replace b_0 := (z4.cell (p := ⟨w.heap.size, 0, none⟩) (by simp only []; omega)).trans b_0
  replace q_0 := (z4.cell (p := ⟨w.heap.size + 1, 0, none⟩) (by simp only []; omega)).trans q_0
  replace q_1 := (z4.cell (p := ⟨w.heap.size + 1, 1, none⟩) (by simp only []; omega)).trans q_1
  have a_0 : w4.cell? ⟨w7.heap.size, 0, none⟩ = some (.slice vb vn vc) := by rw [hw4]; exact box_cell (Below.refl _ _) rfl
  have a_1 : w4.cell? ⟨w7.heap.size, 1, none⟩ = some (.slice sb sn sc) := by rw [hw4]; exact box_cell (Below.refl _ _) rfl
  have raw4_b_0 := b_0
  have raw4_q_0 := q_0
  have raw4_q_1 := q_1
  have raw4_a_0 := a_0
  have raw4_a_1 := a_1
  rw [hw4] at raw4_b_0 raw4_q_0 raw4_q_1 raw4_a_0 raw4_a_1
  cases ok with
  | false =>
    have HE := Lib.hid (show subSize db (vq, xs) k = -1 by rw [HS.out]; rfl)
    go_wp2_with fail
    rw [← hw4]
    clear hw4
    clear old4_b_0 old4_q_0 old4_q_1 raw4_b_0 raw4_q_0 raw4_q_1 raw4_a_0 raw4_a_1
    go_wp2_with fail
    go_ret
    exact ⟨ret_int HE.out.symm, hb4⟩
  | true =>
    have HE := Lib.hid (show subSize db (vq, xs) k = (sn : Int) by rw [HS.out, if_pos rfl, hsl])
    go_wp2_with fail
    rw [← hw4]
    clear hw4
    clear old4_b_0 old4_q_0 old4_q_1 raw4_b_0 raw4_q_0 raw4_q_1 raw4_a_0 raw4_a_1
    go_wp2_with fail
    go_ret
    exact ⟨ret_int HE.out.symm, hb4⟩

end Go.Proofs.YtkipgbgkhffkkaaGreat
