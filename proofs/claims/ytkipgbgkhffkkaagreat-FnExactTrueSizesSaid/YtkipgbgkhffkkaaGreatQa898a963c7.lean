/- Texts joined for one claim: Sizes, LTrueSizes. -/
import Derived.Test.YtkipgbgkhffkkaaGreatQfe2a32a828
import Derived.Deep.RegionHeld3

/- Contracts: the sizes of all connected parts of a query, both ways. -/
namespace Go.Proofs.YtkipgbgkhffkkaaGreat
open Go.RowKit
set_option linter.unusedVariables false
set_option linter.unusedSimpArgs false
set_option synthInstance.maxSize 2000
set_option synthInstance.maxHeartbeats 400000

/-! The sizes of all connected parts -/

def sizeAt (db : DDb) (q : DQ) (m : Nat) : Int := if isConn q (m : Int) then subSize db q (m : Int) else 0
def sizesTo (db : DDb) (q : DQ) (j : Nat) : List Int := (List.range j).map (sizeAt db q)
/-- TrueSizes. -/
def trueSizes (db : DDb) (q : DQ) : List Int := if queryFor db q then sizesTo db q ((fullMask q).toNat + 1) else []
theorem sizesTo_succ (db : DDb) (q : DQ) (j : Nat) : sizesTo db q (j + 1) = sizesTo db q j ++ [sizeAt db q j] := by simp [sizesTo, List.range_succ]
theorem sizesTo_len (db : DDb) (q : DQ) (j : Nat) : (sizesTo db q j).length = j := by simp [sizesTo]
theorem subSize_rng (db : DDb) (q : DQ) (k : Int) : -1 ≤ subSize db q k ∧ subSize db q k ≤ 10000 := by
  have h := (evalM_len db q k).2.1
  unfold subSize
  split <;> omega
theorem sizeAt_rng (db : DDb) (q : DQ) (m : Nat) : I64 (sizeAt db q m) := by
  have h := subSize_rng db q (m : Int)
  unfold sizeAt
  split <;> constructor <;> omega
theorem sizes_cnt (db : DDb) (q : DQ) : cnt_I (trueSizes db q) ≤ 16 := by
  obtain ⟨M, hM, hM16, _⟩ := fullMask_nat q
  show (trueSizes db q).length ≤ 16
  unfold trueSizes
  split
  · rw [sizesTo_len, hM]; simp; omega
  · simp
theorem connTo_mem {q : DQ} : ∀ {m : Nat} {v : Int}, v ∈ connTo q m ↔ ∃ k : Nat, v = (k : Int) ∧ 1 ≤ k ∧ k ≤ m ∧ joined q k = true
  | 0, v => by
    constructor
    · intro h; simp [connTo] at h
    · rintro ⟨k, _, h1, h2, _⟩; omega
  | m + 1, v => by
    cases hj : joined q (m + 1) with
    | true =>
      rw [connTo_yes hj, List.mem_append, connTo_mem]
      constructor
      · rintro (⟨k, h1, h2, h3, h4⟩ | h)
        · exact ⟨k, h1, h2, by omega, h4⟩
        · exact ⟨m + 1, by simpa using h, by omega, Nat.le_refl _, hj⟩
      · rintro ⟨k, h1, h2, h3, h4⟩
        by_cases hk : k = m + 1
        · subst hk; right; simpa using h1
        · exact .inl ⟨k, h1, h2, by omega, h4⟩
    | false =>
      rw [connTo_no hj, connTo_mem]
      constructor
      · rintro ⟨k, h1, h2, h3, h4⟩; exact ⟨k, h1, h2, by omega, h4⟩
      · rintro ⟨k, h1, h2, h3, h4⟩
        have : k ≠ m + 1 := fun e => by subst e; rw [hj] at h4; cases h4
        exact ⟨k, h1, h2, by omega, h4⟩
theorem isConn_has {q : DQ} {m M : Nat} (hv : validQ q = true) (hM : fullMask q = (M : Int)) (h : m ≤ M) : isConn q (m : Int) = has (connTo q M) (m : Int) := by
  have hf := fullMask_yes hv
  have hmo : maskOkB q (m : Int) = true := by
    simp only [maskOkB, hv, betw, Bool.true_and, Bool.and_eq_true, decide_eq_true_eq]
    omega
  rw [isConn_yes hmo, Bool.eq_iff_iff]
  simp only [conn, has, Bool.and_eq_true, decide_eq_true_eq, connTo_mem]
  constructor
  · rintro ⟨h1, h2⟩
    exact ⟨m, rfl, by omega, h, h2⟩
  · rintro ⟨k, h1, h2, h3, h4⟩
    obtain rfl : m = k := by omega
    exact ⟨by omega, h4⟩
/-- What the program has filled in behind the first j connected masks. -/
def fillS (db : DDb) (q : DQ) (M : Nat) (L : List Int) (j : Nat) : List Int := (List.range (M + 1)).map (fun m : Nat => if has (L.take j) (m : Int) then sizeAt db q m else 0)
theorem fillS_zero (db : DDb) (q : DQ) (M : Nat) (L : List Int) : fillS db q M L 0 = List.replicate (M + 1) 0 := by
  simp only [fillS, List.take_zero, has, List.not_mem_nil, decide_false, Bool.false_eq_true, if_false]
  apply List.ext_getElem
  · simp
  · intro i h1 h2; simp
theorem fillS_step {db : DDb} {q : DQ} {M k j : Nat} {L : List Int} (h : L[j]? = some (k : Int)) (hk : k ≤ M) : fillS db q M L (j + 1) = (fillS db q M L j).set k (sizeAt db q k) := by
  apply List.ext_getElem
  · simp [fillS]
  · intro i h1 h2
    rw [List.getElem_set]
    simp only [fillS, List.getElem_map, List.getElem_range]
    have e : L.take (j + 1) = L.take j ++ [(k : Int)] := by rw [List.take_add_one, h]; rfl
    rw [e]
    by_cases hi : k = i
    · subst hi
      rw [if_pos rfl, if_pos (by simp [has])]
    · rw [if_neg hi]
      have : has (L.take j ++ [(k : Int)]) (i : Int) = has (L.take j) (i : Int) := by
        rw [Bool.eq_iff_iff]
        simp only [has, decide_eq_true_eq, List.mem_append, List.mem_singleton]
        constructor
        · rintro (h | h)
          · exact h
          · omega
        · exact .inl
      rw [this]
theorem fillS_all {db : DDb} {q : DQ} {M : Nat} (hv : validQ q = true) (hM : fullMask q = (M : Int)) : fillS db q M (connTo q M) (connTo q M).length = sizesTo db q (M + 1) := by
  unfold fillS sizesTo
  apply List.map_congr_left
  intro m hm
  rw [List.mem_range] at hm
  rw [List.take_length, ← isConn_has hv hM (by omega)]
  unfold sizeAt
  split <;> rfl
theorem sizeAt_conn {db : DDb} {q : DQ} {M k : Nat} (hf : queryFor db q = true) (hM : fullMask q = (M : Int)) (hk : (k : Int) ∈ connTo q M) : 1 ≤ k ∧ k ≤ M ∧ sizeAt db q k = ((evalK db q k).2.length : Int) := by
  have hv : validQ q = true := by rw [queryFor, Bool.and_eq_true] at hf; exact hf.1
  obtain ⟨k', h1, h2, h3, h4⟩ := connTo_mem.1 hk
  obtain rfl : k = k' := by omega
  have hc : isConn q (k : Int) = true := by rw [isConn_has hv hM h3]; simpa [has] using hk
  have ho : evalOk db q (k : Int) = true := by
    rw [evalOk, hf, hM, Bool.true_and]
    simp only [betw, Bool.and_eq_true, decide_eq_true_eq]
    omega
  refine ⟨h2, h3, ?_⟩
  rw [sizeAt, if_pos hc, subSize, if_pos ho, evalM_yes ho]

set_option maxRecDepth 100000 in
set_option maxHeartbeats 4000000 in
theorem sizes_spec (cs ds : List Value) (db : DDb) (x : DQ) (w : World) (h : rDb.rep w cs db) (h' : rQ.rep w ds x) :
    Calls Tryz.prog 9 #[.agg cs.toArray, .agg ds.toArray] w fun e w' => ∃ u, e = .returned u ∧ Own oI w.heap.size w'.heap.size w' [u] (trueSizes db x) ∧ Below w.heap.size w w' := by
  have HQF := Lib.hid (fun W (hW : Below w.heap.size w W) => queryFor_spec cs ds db x W (rDb.mono h hW) (rQ.mono h' hW))
  have HFM := Lib.hid (fun W (hW : Below w.heap.size w W) => fullMask_spec ds x W (rQ.mono h' hW))
  have HIC := Lib.hid (fun k W (hW : Below w.heap.size w W) => isConn_spec ds x k W (rQ.mono h' hW))
  have HSS := Lib.hid (fun k W (hk : I64 k) (hW : Below w.heap.size w W) => subSize_spec cs ds db x k W (rDb.mono h hW) (rQ.mono h' hW) hk)
  obtain ⟨ub, un, uc, rfl⟩ := rDb_form h
  obtain ⟨qb, qn, qc, rfl⟩ := rQ_form h'
  obtain ⟨M, hM, hM16, _⟩ := fullMask_nat x
  obtain ⟨qf, hqf⟩ : ∃ qf, queryFor db x = qf := ⟨_, rfl⟩
  have HT : Hid (trueSizes db x = if qf then sizesTo db x (M + 1) else []) := Lib.hid (by rw [trueSizes, hqf, hM]; rfl)
  obtain ⟨R, hR⟩ : ∃ R, trueSizes db x = R := ⟨_, rfl⟩
  rw [hR] at HT ⊢
  rw [hqf] at HQF
  rw [hM] at HFM
  have HSA : Hid (∀ m : Nat, sizeAt db x m = if isConn x (m : Int) then subSize db x (m : Int) else 0) := Lib.hid (fun m => rfl)
  have HSR := Lib.hid (fun m => sizeAt_rng db x m)
  have HS2 := Lib.hid (sizesTo_succ db x)
  have HSL := Lib.hid (sizesTo_len db x)
  obtain ⟨vq, xs⟩ := x
  simp only at HQF HFM HIC HSS
  clear h h' hM hqf hR
  have hb0 : Below w.heap.size w w := Below.refl _ _
  go_enter Tryz.func9, Tryz.ntmps9
  obtain ⟨w1, hw1⟩ : ∃ W, W = w.alloc (.cells #[.slice ub un uc] 34) := ⟨_, rfl⟩
  have z1 : Below w.heap.size w w1 := by rw [hw1]; exact (Below.refl _ _).alloc (Nat.le_refl _) _
  have s1 : w1.heap.size = w.heap.size + 1 := by rw [hw1]; simp
  have hb1 := on hb0 z1
  have b_0 : w1.cell? ⟨w.heap.size, 0, none⟩ = some (.slice ub un uc) := by rw [hw1]; exact box_cell (Below.refl _ _) rfl
  have raw1_b_0 := b_0
  rw [hw1] at raw1_b_0
  obtain ⟨w2, hw2⟩ : ∃ W, W = w1.alloc (.cells #[.int .i64 vq, .slice qb qn qc] 38) := ⟨_, rfl⟩
  have z2 : Below w1.heap.size w1 w2 := by rw [hw2]; exact (Below.refl _ _).alloc (Nat.le_refl _) _
  have s2 : w2.heap.size = w1.heap.size + 1 := by rw [hw2]; simp
  have hb2 := on hb1 z2
  replace b_0 := (z2.cell (p := ⟨w.heap.size, 0, none⟩) (by simp only []; omega)).trans b_0
  have e2 : w1.heap.size = w.heap.size + 1 := by omega
  have q_0 : w2.cell? ⟨w1.heap.size, 0, none⟩ = some (.int .i64 vq) := by rw [hw2]; exact box_cell (Below.refl _ _) rfl
  have q_1 : w2.cell? ⟨w1.heap.size, 1, none⟩ = some (.slice qb qn qc) := by rw [hw2]; exact box_cell (Below.refl _ _) rfl
  rw [e2] at q_0 q_1
  have raw2_b_0 := b_0
  have raw2_q_0 := q_0
  have raw2_q_1 := q_1
  rw [hw2, hw1] at raw2_b_0 raw2_q_0 raw2_q_1
  obtain ⟨w3, hw3⟩ : ∃ W, W = w2.alloc (.cells #[] 3) := ⟨_, rfl⟩
  have z3 : Below w2.heap.size w2 w3 := by rw [hw3]; exact (Below.refl _ _).alloc (Nat.le_refl _) _
  have s3 : w3.heap.size = w2.heap.size + 1 := by rw [hw3]; simp
  have hb3 := on hb2 z3
  replace b_0 := (z3.cell (p := ⟨w.heap.size, 0, none⟩) (by simp only []; omega)).trans b_0
  replace q_0 := (z3.cell (p := ⟨w.heap.size + 1, 0, none⟩) (by simp only []; omega)).trans q_0
  replace q_1 := (z3.cell (p := ⟨w.heap.size + 1, 1, none⟩) (by simp only []; omega)).trans q_1
  have he : ∀ S, Acc 3 O.int w2.heap.size S w3.heap.size w3 (.slice (some ⟨w.heap.size + 1 + 1, 0, none⟩) 0 0) [] := fun S => by rw [hw3]; exact Acc.empty (by omega) (by first | (simp; done) | (simp; omega))
  have raw3_b_0 := b_0
  have raw3_q_0 := q_0
  have raw3_q_1 := q_1
  rw [hw3, hw2, hw1] at raw3_b_0 raw3_q_0 raw3_q_1
  go_wp2_with fail
  rw [← hw1]
  rw [← hw2]
  rw [← hw3]
  clear hw3 hw2 hw1
  clear raw1_b_0 raw2_b_0 raw2_q_0 raw2_q_1 raw3_b_0 raw3_q_0 raw3_q_1
  go_loopw [5, 6] (fun v k wr => ∃ j : Nat, j ≤ M + 1 ∧ (qf = false → j = 0) ∧ k = .int .i64 j ∧ Acc 3 O.int w2.heap.size w3.heap.size wr.heap.size wr v (sizesTo db (vq, xs) j) ∧ Turn w2.heap.size (w2.heap.size + 1) w3 wr) (fun _ k _ => M + 1 - (intOf k).toNat)
  case atStart => exact ⟨0, Nat.zero_le _, fun _ => rfl, rfl, (he _).wide (Nat.le_refl _) (by omega), turn_refl _ _ _⟩
  case round =>
    obtain ⟨j, hj, hq0, rfl, hacc, hdr⟩ := hrel
    have hlc := hdr
    clear he
    have s4 := hdr.size
    have hb4 := hb3.trans ((hdr.below (by omega)).mono (by omega))
    replace b_0 := (hdr.cell (p := ⟨w.heap.size, 0, none⟩) (by simp only []; omega) (by simp only []; omega)).trans b_0
    replace q_0 := (hdr.cell (p := ⟨w.heap.size + 1, 0, none⟩) (by simp only []; omega) (by simp only []; omega)).trans q_0
    replace q_1 := (hdr.cell (p := ⟨w.heap.size + 1, 1, none⟩) (by simp only []; omega) (by simp only []; omega)).trans q_1
    obtain ⟨va, vn, vc, rfl⟩ := hacc.form3
    have hlen := HSL.out j
    go_wp2_with fail
    refine (HFM.out _ hb4).mono ?_
    rintro e w5 ⟨rfl, z5⟩
    replace hacc := hacc.below z5 (Nat.le_refl _)
    replace hlc := hlc.trans (turn_below z5 (by omega))
    have s5 := z5.size
    have hb5 := on hb4 z5
    replace b_0 := (z5.cell (p := ⟨w.heap.size, 0, none⟩) (by simp only []; omega)).trans b_0
    replace q_0 := (z5.cell (p := ⟨w.heap.size + 1, 0, none⟩) (by simp only []; omega)).trans q_0
    replace q_1 := (z5.cell (p := ⟨w.heap.size + 1, 1, none⟩) (by simp only []; omega)).trans q_1
    by_cases hlt : j ≤ M
    · have hjj : (j : Int) ≤ (M : Int) := by omega
      have hjd : decide ((j : Int) ≤ (M : Int)) = true := decide_eq_true hjj
      go_wp2_with fail
      refine (HQF.out _ hb5).mono ?_
      rintro e w6 ⟨rfl, z6⟩
      replace hacc := hacc.below z6 (by omega)
      replace hlc := hlc.trans (turn_below z6 (by omega))
      have s6 := z6.size
      have hb6 := on hb5 z6
      replace b_0 := (z6.cell (p := ⟨w.heap.size, 0, none⟩) (by simp only []; omega)).trans b_0
      replace q_0 := (z6.cell (p := ⟨w.heap.size + 1, 0, none⟩) (by simp only []; omega)).trans q_0
      replace q_1 := (z6.cell (p := ⟨w.heap.size + 1, 1, none⟩) (by simp only []; omega)).trans q_1
      cases qf with
      | false =>
        obtain rfl : j = 0 := hq0 rfl
        have HE : Hid (R = sizesTo db (vq, xs) 0) := Lib.hid (by rw [HT.out]; rfl)
        have HO := Lib.hid (hacc.own (B := w.heap.size) (hi' := w6.heap.size) (by omega) (by omega) (by omega))
        clear hacc
        go_wp2_with fail
        go_ret
        exact ⟨_, rfl, by rw [HE.out]; exact HO.out, hb6⟩
      | true =>
        have hI := HIC.out (j : Int) w6 hb6
        obtain ⟨ic, hic⟩ : ∃ ic, isConn (vq, xs) (j : Int) = ic := ⟨_, rfl⟩
        rw [hic] at hI
        have HI := Lib.hid hI
        have HSJ := Lib.hid (HSA.out j)
        rw [hic] at HSJ
        have HRJ := Lib.hid (HSR.out j)
        have hj64 : I64 (j : Int) := ⟨by omega, by omega⟩
        clear hI hic
        go_wp2_with fail
        refine HI.out.mono ?_
        rintro e w7 ⟨rfl, z7⟩
        replace hacc := hacc.below z7 (by omega)
        replace hlc := hlc.trans (turn_below z7 (by omega))
        have s7 := z7.size
        have hb7 := on hb6 z7
        replace b_0 := (z7.cell (p := ⟨w.heap.size, 0, none⟩) (by simp only []; omega)).trans b_0
        replace q_0 := (z7.cell (p := ⟨w.heap.size + 1, 0, none⟩) (by simp only []; omega)).trans q_0
        replace q_1 := (z7.cell (p := ⟨w.heap.size + 1, 1, none⟩) (by simp only []; omega)).trans q_1
        cases ic with
        | false =>
          have HV : Hid (sizeAt db (vq, xs) j = 0) := Lib.hid (by rw [HSJ.out]; rfl)
          rw [HV.out] at HRJ
          go_wp2_with ((at_builtin; refine wpList_accI _ _ _ _ _ hacc hlc rfl (by omega) (by omega) HRJ.out (by omega) rfl rfl rfl rfl rfl ?_; intro v' w1 hacc' ht' hsz'))
          have HN : Hid (sizesTo db (vq, xs) (j + 1) = sizesTo db (vq, xs) j ++ [0]) := Lib.hid (by rw [HS2.out, HV.out])
          go_roundw
          case rel => exact ⟨j + 1, by omega, (fun h9 => by cases h9), by go_num, by rw [HN.out]; exact hacc', ht'⟩
          case measure => simp [intOf]; omega
        | true =>
          have HV : Hid (sizeAt db (vq, xs) j = subSize db (vq, xs) (j : Int)) := Lib.hid (by rw [HSJ.out]; rfl)
          obtain ⟨sz, hsz⟩ : ∃ sz, subSize db (vq, xs) (j : Int) = sz := ⟨_, rfl⟩
          rw [hsz] at HV
          rw [HV.out] at HRJ
          have hS := HSS.out (j : Int) w7 hj64 hb7
          rw [hsz] at hS
          have HS := Lib.hid hS
          clear hS hsz
          go_wp2_with fail
          refine HS.out.mono ?_
          rintro e w8 ⟨rfl, z8⟩
          replace hacc := hacc.below z8 (by omega)
          replace hlc := hlc.trans (turn_below z8 (by omega))
          have s8 := z8.size
          have hb8 := on hb7 z8
          replace b_0 := (z8.cell (p := ⟨w.heap.size, 0, none⟩) (by simp only []; omega)).trans b_0
          replace q_0 := (z8.cell (p := ⟨w.heap.size + 1, 0, none⟩) (by simp only []; omega)).trans q_0
          replace q_1 := (z8.cell (p := ⟨w.heap.size + 1, 1, none⟩) (by simp only []; omega)).trans q_1
          go_wp2_with ((at_builtin; refine wpList_accI _ _ _ _ _ hacc hlc rfl (by omega) (by omega) HRJ.out (by omega) rfl rfl rfl rfl rfl ?_; intro v' w1 hacc' ht' hsz'))
          have HN : Hid (sizesTo db (vq, xs) (j + 1) = sizesTo db (vq, xs) j ++ [sz]) := Lib.hid (by rw [HS2.out, HV.out])
          go_roundw
          case rel => exact ⟨j + 1, by omega, (fun h9 => by cases h9), by go_num, by rw [HN.out]; exact hacc', ht'⟩
          case measure => simp [intOf]; omega
    · obtain rfl : j = M + 1 := by omega
      have hqt : qf = true := by
        cases qf with
        | true => rfl
        | false => have := hq0 rfl; omega
      subst hqt
      have hjj : ¬ ((M + 1 : Nat) : Int) ≤ (M : Int) := by omega
      have hjd : decide (((M + 1 : Nat) : Int) ≤ (M : Int)) = false := decide_eq_false hjj
      have HE : Hid (R = sizesTo db (vq, xs) (M + 1)) := Lib.hid (by rw [HT.out]; rfl)
      have HO := Lib.hid (hacc.own (B := w.heap.size) (hi' := w5.heap.size) (by omega) (by omega) (by omega))
      clear hacc
      go_wp2_with fail
      go_ret
      exact ⟨_, rfl, by rw [HE.out]; exact HO.out, hb5⟩

theorem run_rows (W : World) (a b : Value) : (Instr.field 49 (.agg #[a, b]) 1).run Tryz.prog W = .ok b W := by
  simp [Instr.field, go_sem, asAgg, part]
set_option maxRecDepth 100000 in
set_option maxHeartbeats 4000000 in
theorem sizes_impl (cs ds : List Value) (db : DDb) (x : DQ) (w : World) (h : rDb.rep w cs db) (h' : rQ.rep w ds x) :
    Calls Tryz.prog 12 #[.agg cs.toArray, .agg ds.toArray] w fun e w' => ∃ u, e = .returned u ∧ Own oI w.heap.size w'.heap.size w' [u] (trueSizes db x) ∧ Below w.heap.size w w' := by
  have HQF := Lib.hid (fun W (hW : Below w.heap.size w W) => queryFor_impl cs ds db x W (rDb.mono h hW) (rQ.mono h' hW))
  have HFM := Lib.hid (fun W (hW : Below w.heap.size w W) => fullMask_impl ds x W (rQ.mono h' hW))
  have HCM := Lib.hid (fun W (hW : Below w.heap.size w W) => connMasks_impl ds x W (rQ.mono h' hW))
  obtain ⟨M, hM, hM16, _, hcm⟩ := fullMask_nat x
  have HEV : Hid (queryFor db x = true → ∀ (k : Nat), (k : Int) ∈ connTo x M → k ≤ M ∧ ∃ E : DAn, sizeAt db x k = (E.2.length : Int) ∧ ∀ W, Below w.heap.size w W → Calls Tryz.prog 49 #[.agg cs.toArray, .agg ds.toArray, .int .i64 (k : Int)] W fun e w' => ∃ us, e = .returned (.agg us.toArray) ∧ Own oAn W.heap.size w'.heap.size w' us E ∧ Below W.heap.size W w') := Lib.hid (fun hf k hk => by
    obtain ⟨h1, h2, h3⟩ := sizeAt_conn hf hM hk
    have hv : validQ x = true := by rw [queryFor, Bool.and_eq_true] at hf; exact hf.1
    obtain ⟨n, hq⟩ := QOk.of hv
    have hf9 := fullMask_yes hv
    have hp := Nat.two_pow_pos x.2.length
    exact ⟨h2, _, h3, fun W hW => evaluate_any cs ds db x k n W (rDb.mono h hW) (rQ.mono h' hW) hf hq (by omega)⟩)
  have HFA : Hid (queryFor db x = true → fillS db x M (connTo x M) (connTo x M).length = sizesTo db x (M + 1)) := Lib.hid (fun hf => fillS_all (by rw [queryFor, Bool.and_eq_true] at hf; exact hf.1) hM)
  have HMN : Hid (∀ v ∈ connTo x M, ∃ k : Nat, v = (k : Int)) := Lib.hid (fun v hv => by obtain ⟨k, h1, _⟩ := connTo_mem.1 hv; exact ⟨k, h1⟩)
  obtain ⟨ub, un, uc, rfl⟩ := rDb_form h
  obtain ⟨qb, qn, qc, rfl⟩ := rQ_form h'
  obtain ⟨qf, hqf⟩ : ∃ qf, queryFor db x = qf := ⟨_, rfl⟩
  have HT : Hid (trueSizes db x = if qf then sizesTo db x (M + 1) else []) := Lib.hid (by rw [trueSizes, hqf, hM]; rfl)
  obtain ⟨R, hR⟩ : ∃ R, trueSizes db x = R := ⟨_, rfl⟩
  rw [hR] at HT ⊢
  rw [hqf] at HQF HEV HFA
  rw [hM] at HFM
  rw [hcm] at HCM
  obtain ⟨L, hL⟩ : ∃ L, connTo x M = L := ⟨_, rfl⟩
  have hL15 : L.length ≤ 15 := by rw [← hL, ← hcm]; exact connMasks_len x
  rw [hL] at HCM HEV HFA HMN
  have HF0 := Lib.hid (fillS_zero db x M L)
  have HFS : Hid (∀ (k j : Nat), L[j]? = some (k : Int) → k ≤ M → fillS db x M L (j + 1) = (fillS db x M L j).set k (sizeAt db x k)) := Lib.hid (fun k j h1 h2 => fillS_step h1 h2)
  have HSR := Lib.hid (fun m => sizeAt_rng db x m)
  obtain ⟨vq, xs⟩ := x
  simp only at HQF HFM HCM HEV
  clear h h' hM hqf hR hL hcm
  have hb0 : Below w.heap.size w w := Below.refl _ _
  go_enter Tryz.func12, Tryz.ntmps12
  obtain ⟨w1, hw1⟩ : ∃ W, W = w.alloc (.cells #[.slice ub un uc] 34) := ⟨_, rfl⟩
  have z1 : Below w.heap.size w w1 := by rw [hw1]; exact (Below.refl _ _).alloc (Nat.le_refl _) _
  have s1 : w1.heap.size = w.heap.size + 1 := by rw [hw1]; simp
  have hb1 := on hb0 z1
  have b_0 : w1.cell? ⟨w.heap.size, 0, none⟩ = some (.slice ub un uc) := by rw [hw1]; exact box_cell (Below.refl _ _) rfl
  have raw1_b_0 := b_0
  rw [hw1] at raw1_b_0
  obtain ⟨w2, hw2⟩ : ∃ W, W = w1.alloc (.cells #[.int .i64 vq, .slice qb qn qc] 38) := ⟨_, rfl⟩
  have z2 : Below w1.heap.size w1 w2 := by rw [hw2]; exact (Below.refl _ _).alloc (Nat.le_refl _) _
  have s2 : w2.heap.size = w1.heap.size + 1 := by rw [hw2]; simp
  have hb2 := on hb1 z2
  replace b_0 := (z2.cell (p := ⟨w.heap.size, 0, none⟩) (by simp only []; omega)).trans b_0
  have e2 : w1.heap.size = w.heap.size + 1 := by omega
  have q_0 : w2.cell? ⟨w1.heap.size, 0, none⟩ = some (.int .i64 vq) := by rw [hw2]; exact box_cell (Below.refl _ _) rfl
  have q_1 : w2.cell? ⟨w1.heap.size, 1, none⟩ = some (.slice qb qn qc) := by rw [hw2]; exact box_cell (Below.refl _ _) rfl
  rw [e2] at q_0 q_1
  have raw2_b_0 := b_0
  have raw2_q_0 := q_0
  have raw2_q_1 := q_1
  rw [hw2, hw1] at raw2_b_0 raw2_q_0 raw2_q_1
  go_wp2_with fail
  rw [← hw1]
  rw [← hw2]
  clear hw2 hw1
  clear raw1_b_0 raw2_b_0 raw2_q_0 raw2_q_1
  refine (HQF.out _ hb2).mono ?_
  rintro e w3 ⟨rfl, z3⟩
  have s3 := z3.size
  have hb3 := on hb2 z3
  replace b_0 := (z3.cell (p := ⟨w.heap.size, 0, none⟩) (by simp only []; omega)).trans b_0
  replace q_0 := (z3.cell (p := ⟨w.heap.size + 1, 0, none⟩) (by simp only []; omega)).trans q_0
  replace q_1 := (z3.cell (p := ⟨w.heap.size + 1, 1, none⟩) (by simp only []; omega)).trans q_1
  cases qf with
  | false =>
    have HE : Hid (R = []) := Lib.hid (by rw [HT.out]; rfl)
    go_wp2_with fail
    go_ret
    exact ⟨_, rfl, by rw [HE.out]; exact own_nil_S.mono (Nat.le_refl _) (by omega), hb3⟩
  | true =>
    have HE : Hid (R = sizesTo db (vq, xs) (M + 1)) := Lib.hid (by rw [HT.out]; rfl)
    have hev := HEV.out rfl
    have hfa := HFA.out rfl
    have HEVT := Lib.hid hev
    have HFAT := Lib.hid hfa
    clear hev hfa HEV HFA HT
    go_wp2_with fail
    refine (HFM.out _ hb3).mono ?_
    rintro e w4 ⟨rfl, z4⟩
    have s4 := z4.size
    have hb4 := on hb3 z4
    replace b_0 := (z4.cell (p := ⟨w.heap.size, 0, none⟩) (by simp only []; omega)).trans b_0
    replace q_0 := (z4.cell (p := ⟨w.heap.size + 1, 0, none⟩) (by simp only []; omega)).trans q_0
    replace q_1 := (z4.cell (p := ⟨w.heap.size + 1, 1, none⟩) (by simp only []; omega)).trans q_1
    go_wp2_with (at_make; refine wpList_mk _ _ (M + 1) (by omega) rfl rfl rfl rfl ?_; intro w5 hp5 z5 hz5; have s5 := z5.size; have hb5 := on hb4 z5; replace b_0 := (z5.cell (p := ⟨w.heap.size, 0, none⟩) (by simp only []; omega)).trans b_0; replace q_0 := (z5.cell (p := ⟨w.heap.size + 1, 0, none⟩) (by simp only []; omega)).trans q_0; replace q_1 := (z5.cell (p := ⟨w.heap.size + 1, 1, none⟩) (by simp only []; omega)).trans q_1)
    have ho5 : OwnInts w4.heap.size w5 (.slice (some ⟨w4.heap.size, 0, none⟩) (M + 1) (M + 1)) (M + 1) (fillS db (vq, xs) M L 0) := by
      rw [HF0.out]
      exact ⟨by simp, hp5, fun y hy => by rw [List.mem_replicate] at hy; rw [hy.2]; constructor <;> omega⟩
    clear hp5
    refine (HCM.out _ hb5).mono ?_
    rintro e w6 ⟨u6, rfl, o6, z6⟩
    obtain ⟨lb, ln, lc, rfl⟩ := oI_form1 o6
    have ho6 := ho5.below z6
    have s6 := z6.size
    have hb6 := on hb5 z6
    replace b_0 := (z6.cell (p := ⟨w.heap.size, 0, none⟩) (by simp only []; omega)).trans b_0
    replace q_0 := (z6.cell (p := ⟨w.heap.size + 1, 0, none⟩) (by simp only []; omega)).trans q_0
    replace q_1 := (z6.cell (p := ⟨w.heap.size + 1, 1, none⟩) (by simp only []; omega)).trans q_1
    have hln := (rI_ints (o6.rd reads_I)).len
    go_wp2_with fail
    go_loopw [19] (fun k wr => ∃ j : Nat, j ≤ ln ∧ k = .int .i64 j ∧ OwnInts w4.heap.size wr (.slice (some ⟨w4.heap.size, 0, none⟩) (M + 1) (M + 1)) (M + 1) (fillS db (vq, xs) M L j) ∧ Turn w4.heap.size (w4.heap.size + 1) w6 wr) (fun k _ => ln - (intOf k).toNat)
    case atStart => exact ⟨0, Nat.zero_le _, rfl, ho6, turn_refl _ _ _⟩
    case round =>
      obtain ⟨j, hj, rfl, how, hdr⟩ := hrel
      have hlc := hdr
      clear ho5 ho6
      have s7 := hdr.size
      have hb7 := hb6.trans ((hdr.below (by omega)).mono (by omega))
      replace b_0 := (hdr.cell (p := ⟨w.heap.size, 0, none⟩) (by simp only []; omega) (by simp only []; omega)).trans b_0
      replace q_0 := (hdr.cell (p := ⟨w.heap.size + 1, 0, none⟩) (by simp only []; omega) (by simp only []; omega)).trans q_0
      replace q_1 := (hdr.cell (p := ⟨w.heap.size + 1, 1, none⟩) (by simp only []; omega) (by simp only []; omega)).trans q_1
      replace o6 := o6.turn hdr (by omega)
      by_cases hlt : j < ln
      · obtain ⟨b9, o9, v, rfl, hcv, hv, hv1, hv2⟩ := (rI_ints (o6.rd reads_I)).get hlt
        have hLj : L[j]? = some v := by
          have h9 := hv.out
          rw [List.getD_eq_getElem?_getD, List.getElem?_eq_getElem (by omega)] at h9
          rw [List.getElem?_eq_getElem (by omega)]
          simpa using h9
        obtain ⟨k, rfl⟩ := HMN.out v (List.mem_of_getElem? hLj)
        obtain ⟨hkM, E, hsa, hev⟩ := HEVT.out k (List.mem_of_getElem? hLj)
        have HSK := Lib.hid (HFS.out k j hLj hkM)
        have HSA := Lib.hid hsa
        have HRG := Lib.hid (HSR.out k)
        have HEW := Lib.hid hev
        have hkM1 : (k : Int) < ((M + 1 : Nat) : Int) := by omega
        clear hv hLj hsa hev
        go_wp2_with fail
        refine (HEW.out _ hb7).mono ?_
        rintro e w8 ⟨us, rfl, oa, z8⟩
        obtain ⟨vb, vn, vc, sb, sn, sc, rfl⟩ := oAn_form oa
        obtain ⟨_, _, _, _, _, _, he9, _, gs⟩ := rAn_open (oa.rd reads_An)
        simp at he9
        obtain ⟨⟨rfl, rfl, rfl⟩, rfl, rfl, rfl⟩ := he9
        have hsl := (rS_sl gs).len
        rw [HSA.out, hsl] at HSK HRG
        have how8 := how.below z8
        have ht8 := hlc.trans (turn_below z8 (by omega))
        obtain ⟨g0, gf0⟩ := how8.cellAt (show k < M + 1 by omega)
        have s8 := z8.size
        have hb8 := on hb7 z8
        replace b_0 := (z8.cell (p := ⟨w.heap.size, 0, none⟩) (by simp only []; omega)).trans b_0
        replace q_0 := (z8.cell (p := ⟨w.heap.size + 1, 0, none⟩) (by simp only []; omega)).trans q_0
        replace q_1 := (z8.cell (p := ⟨w.heap.size + 1, 1, none⟩) (by simp only []; omega)).trans q_1
        replace o6 := o6.below z8 (by omega)
        have HON := Lib.hid (how8.put (c := k) (by omega) HRG.out)
        have HTN := Lib.hid (ht8.setIn (p := ⟨w4.heap.size, k, none⟩) (Nat.le_refl _) (Nat.lt_succ_self _) (.int .i64 (sn : Int)))
        clear oa gs how how8 ht8 hlc hsl
        go_wp2_with fail
        rw [run_rows]
        go_wp2_with fail
        go_roundw
        case rel => exact ⟨j + 1, by omega, by go_num, by rw [HSK.out]; exact HON.out, HTN.out⟩
        case measure => simp [intOf]; omega
      · obtain rfl : ln = j := by omega
        have HO : Hid (Own oI w.heap.size wr.heap.size wr [.slice (some ⟨w4.heap.size, 0, none⟩) (M + 1) (M + 1)] R) := Lib.hid (by
          rw [HE.out, ← HFAT.out, hln]
          exact how.own.mono (by omega) (Nat.le_refl _))
        clear how
        go_wp2_with fail
        go_ret
        exact ⟨_, rfl, HO.out, hb7⟩

end Go.Proofs.YtkipgbgkhffkkaaGreat

/- The walk of the law TrueSizes. Written by a program. -/
namespace Go.Proofs.YtkipgbgkhffkkaaGreat
open Go.RowKit
set_option linter.unusedVariables false
set_option linter.unusedSimpArgs false
set_option synthInstance.maxSize 2000
set_option synthInstance.maxHeartbeats 400000

set_option maxHeartbeats 4000000 in
set_option maxRecDepth 100000 in
theorem walk_FnExactTrueSizes (v0 : Value) (v1 : Value) (w : World) (h0 : kDb_in w v0) (h1 : kQ_in w v1) :
    Calls Tryz.prog 3 #[v0, v1] w fun e w' => e = .returned (.bool true) ∧ Below w.heap.size w w' := by
  obtain ⟨c0, x0, rfl, h0⟩ := h0
  obtain ⟨bu0, nu0, cu0, rfl⟩ := rDb_form h0
  obtain ⟨c1, x1, rfl, h1⟩ := h1
  obtain ⟨bu1, nu1, cu1, rfl⟩ := rQ_form h1
  have hb0 : Below w.heap.size w w := Below.refl _ _
  go_enter Tryz.func3, Tryz.ntmps3
  obtain ⟨w1, hw1⟩ : ∃ W, W = w.alloc (.cells #[.slice bu0 nu0 cu0] 24) := ⟨_, rfl⟩
  have z1 : Below w.heap.size w w1 := by rw [hw1]; exact (Below.refl _ _).alloc (Nat.le_refl _) _
  have s1 : w1.heap.size = w.heap.size + 1 := by rw [hw1]; simp
  have hb1 := on hb0 z1
  have bp0_0 : w1.cell? ⟨w.heap.size, 0, none⟩ = some (.slice bu0 nu0 cu0) := by rw [hw1]; exact box_cell (Below.refl _ _) rfl
  obtain ⟨w2, hw2⟩ : ∃ W, W = w1.alloc (.cells #[.int .i64 x1.1, .slice bu1 nu1 cu1] 27) := ⟨_, rfl⟩
  have z2 : Below w1.heap.size w1 w2 := by rw [hw2]; exact (Below.refl _ _).alloc (Nat.le_refl _) _
  have s2 : w2.heap.size = w1.heap.size + 1 := by rw [hw2]; simp
  have hb2 := on hb1 z2
  replace bp0_0 := (z2.cell (p := ⟨w.heap.size, 0, none⟩) (by simp only []; omega)).trans bp0_0
  have bp1_0 : w2.cell? ⟨w1.heap.size, 0, none⟩ = some (.int .i64 x1.1) := by rw [hw2]; exact box_cell (Below.refl _ _) rfl
  have bp1_1 : w2.cell? ⟨w1.heap.size, 1, none⟩ = some (.slice bu1 nu1 cu1) := by rw [hw2]; exact box_cell (Below.refl _ _) rfl
  have e2 : w1.heap.size = w.heap.size + 1 := by omega
  rw [e2] at bp1_0 bp1_1
  go_wp2_with fail
  rw [← hw1]
  clear hw1
  rw [← hw2]
  clear hw2
  refine (sz_Db _ x0 (1048576) _ (rDb.mono h0 hb2) (by omega) (by omega)).mono ?_
  rintro e w3 ⟨rfl, z3⟩
  have s3 := z3.size
  have hb3 := on hb2 z3
  replace bp0_0 := (z3.cell (p := ⟨w.heap.size, 0, none⟩) (by simp only []; omega)).trans bp0_0
  replace bp1_0 := (z3.cell (p := ⟨w.heap.size + 1, 0, none⟩) (by simp only []; omega)).trans bp1_0
  replace bp1_1 := (z3.cell (p := ⟨w.heap.size + 1, 1, none⟩) (by simp only []; omega)).trans bp1_1
  obtain ⟨q0, hq0⟩ : ∃ q, q = szR (1048576) (bulk_Db x0) := ⟨_, rfl⟩
  rw [← hq0]
  have hc0 := szR_cases (1048576) (bulk_Db x0)
  rw [← hq0] at hc0
  clear hq0
  rcases hc0 with ⟨rfl, _⟩ | ⟨hq0, hbk0⟩
  · go_wp2_with fail
    go_ret
    exact ⟨rfl, hb3⟩
  have hlo0 : 0 ≤ q0 ∧ q0 ≤ 1048576 := by omega
  have hbl0 : bulk_Db x0 ≤ 1048576 := by omega
  obtain ⟨hlo0, hlp0⟩ := hlo0
  have HQ0 := Lib.hid hq0
  clear hq0 hbk0
  go_wp2_with fail
  refine (sz_Q _ x1 (q0) _ (rQ.mono h1 hb3) (by omega) (by omega)).mono ?_
  rintro e w4 ⟨rfl, z4⟩
  have s4 := z4.size
  have hb4 := on hb3 z4
  replace bp0_0 := (z4.cell (p := ⟨w.heap.size, 0, none⟩) (by simp only []; omega)).trans bp0_0
  replace bp1_0 := (z4.cell (p := ⟨w.heap.size + 1, 0, none⟩) (by simp only []; omega)).trans bp1_0
  replace bp1_1 := (z4.cell (p := ⟨w.heap.size + 1, 1, none⟩) (by simp only []; omega)).trans bp1_1
  obtain ⟨q1, hq1⟩ : ∃ q, q = szR (q0) (bulk_Q x1) := ⟨_, rfl⟩
  rw [← hq1]
  have hc1 := szR_cases (q0) (bulk_Q x1)
  rw [← hq1] at hc1
  clear hq1
  rcases hc1 with ⟨rfl, _⟩ | ⟨hq1, hbk1⟩
  · go_wp2_with fail
    go_ret
    exact ⟨rfl, hb4⟩
  have hlo1 : 0 ≤ q1 ∧ q1 ≤ 1048576 := by omega
  have hbl1 : bulk_Q x1 ≤ 1048576 := by omega
  obtain ⟨hlo1, hlp1⟩ := hlo1
  have HQ1 := Lib.hid hq1
  clear hq1 hbk1
  go_wp2_with fail
  go_region_held3 (fun W => W.cell? ⟨w.heap.size, 0, none⟩ = some (.slice bu0 nu0 cu0) ∧ W.cell? ⟨w.heap.size + 1, 0, none⟩ = some (.int .i64 x1.1) ∧ W.cell? ⟨w.heap.size + 1, 1, none⟩ = some (.slice bu1 nu1 cu1)) (first | exact ⟨bp0_0, bp1_0, bp1_1⟩ | assumption) (first | (go_at_call 10; with_reducible (show Calls Tryz.prog 10 #[.agg #[.slice bu0 nu0 cu0]] _ _); refine (to_Db _ x0 _ (rDb.mono h0 hb4.drew) (by omega)).mono ?_; rintro e w5 ⟨ct0, rfl, t0, z5⟩; replace z5 : Below w4.heap.size w4 w5 := on (Below.refl _ _).drew z5; have sz5 := z5.size; obtain ⟨but0, nut0, cut0, rfl⟩ := oDb_form t0; have hS5 := (⟨(z5.cell (p := ⟨w.heap.size, 0, none⟩) (by simp only []; omega)).trans bp0_0, (z5.cell (p := ⟨w.heap.size + 1, 0, none⟩) (by simp only []; omega)).trans bp1_0, (z5.cell (p := ⟨w.heap.size + 1, 1, none⟩) (by simp only []; omega)).trans bp1_1⟩ : (fun W => W.cell? ⟨w.heap.size, 0, none⟩ = some (.slice bu0 nu0 cu0) ∧ W.cell? ⟨w.heap.size + 1, 0, none⟩ = some (.int .i64 x1.1) ∧ W.cell? ⟨w.heap.size + 1, 1, none⟩ = some (.slice bu1 nu1 cu1)) w5); have hx5 := on hb4 z5) | (go_at_call 11; with_reducible (show Calls Tryz.prog 11 #[.agg #[.int .i64 x1.1, .slice bu1 nu1 cu1]] _ _); refine (to_Q _ x1 _ (rQ.mono h1 hx5) (by omega)).mono ?_; rintro e w6 ⟨ct1, rfl, t1, z6⟩; have sz6 := z6.size; obtain ⟨but1, nut1, cut1, rfl⟩ := oQ_form t1; replace t0 := t0.below z6 (by omega); have hS6 := (⟨(z6.cell (p := ⟨w.heap.size, 0, none⟩) (by simp only []; omega)).trans hS5.1, (z6.cell (p := ⟨w.heap.size + 1, 0, none⟩) (by simp only []; omega)).trans hS5.2.1, (z6.cell (p := ⟨w.heap.size + 1, 1, none⟩) (by simp only []; omega)).trans hS5.2.2⟩ : (fun W => W.cell? ⟨w.heap.size, 0, none⟩ = some (.slice bu0 nu0 cu0) ∧ W.cell? ⟨w.heap.size + 1, 0, none⟩ = some (.int .i64 x1.1) ∧ W.cell? ⟨w.heap.size + 1, 1, none⟩ = some (.slice bu1 nu1 cu1)) w6); have hx6 := on hx5 z6) | (go_at_call 9; refine (sizes_spec _ _ x0 x1 _ (t0.rd reads_Db) (t1.rd reads_Q)).mono ?_; rintro e w7 ⟨cW0, rfl, W0, z7⟩; have sz7 := z7.size; replace t0 := t0.below z7 (by omega); replace t1 := t1.below z7 (by omega); have hS7 := (⟨(z7.cell (p := ⟨w.heap.size, 0, none⟩) (by simp only []; omega)).trans hS6.1, (z7.cell (p := ⟨w.heap.size + 1, 0, none⟩) (by simp only []; omega)).trans hS6.2.1, (z7.cell (p := ⟨w.heap.size + 1, 1, none⟩) (by simp only []; omega)).trans hS6.2.2⟩ : (fun W => W.cell? ⟨w.heap.size, 0, none⟩ = some (.slice bu0 nu0 cu0) ∧ W.cell? ⟨w.heap.size + 1, 0, none⟩ = some (.int .i64 x1.1) ∧ W.cell? ⟨w.heap.size + 1, 1, none⟩ = some (.slice bu1 nu1 cu1)) w7); have hx7 := on hx6 z7))
  replace z5 : Below w4.heap.size w4 w5 := z5
  replace z6 : Below w5.heap.size w5 w6 := z6
  replace z7 : Below w6.heap.size w6 w7 := z7
  clear hS5 hx5 hS6 hx6 hS7 hx7 t0 t1
  have t5 := z5.size
  have hb5 := on hb4 z5
  replace bp0_0 := (z5.cell (p := ⟨w.heap.size, 0, none⟩) (by simp only []; omega)).trans bp0_0
  replace bp1_0 := (z5.cell (p := ⟨w.heap.size + 1, 0, none⟩) (by simp only []; omega)).trans bp1_0
  replace bp1_1 := (z5.cell (p := ⟨w.heap.size + 1, 1, none⟩) (by simp only []; omega)).trans bp1_1
  have t6 := z6.size
  have hb6 := on hb5 z6
  replace bp0_0 := (z6.cell (p := ⟨w.heap.size, 0, none⟩) (by simp only []; omega)).trans bp0_0
  replace bp1_0 := (z6.cell (p := ⟨w.heap.size + 1, 0, none⟩) (by simp only []; omega)).trans bp1_0
  replace bp1_1 := (z6.cell (p := ⟨w.heap.size + 1, 1, none⟩) (by simp only []; omega)).trans bp1_1
  have t7 := z7.size
  have hb7 := on hb6 z7
  replace bp0_0 := (z7.cell (p := ⟨w.heap.size, 0, none⟩) (by simp only []; omega)).trans bp0_0
  replace bp1_0 := (z7.cell (p := ⟨w.heap.size + 1, 0, none⟩) (by simp only []; omega)).trans bp1_0
  replace bp1_1 := (z7.cell (p := ⟨w.heap.size + 1, 1, none⟩) (by simp only []; omega)).trans bp1_1
  go_wp2_with fail
  refine (to_Db _ _ _ (rDb.mono h0 hb7) (by omega)).mono ?_
  rintro e w8 ⟨cy0, rfl, y0, z8⟩
  have s8 := z8.size
  have hb8 := on hb7 z8
  replace W0 := W0.below z8 (by omega)
  replace bp0_0 := (z8.cell (p := ⟨w.heap.size, 0, none⟩) (by simp only []; omega)).trans bp0_0
  replace bp1_0 := (z8.cell (p := ⟨w.heap.size + 1, 0, none⟩) (by simp only []; omega)).trans bp1_0
  replace bp1_1 := (z8.cell (p := ⟨w.heap.size + 1, 1, none⟩) (by simp only []; omega)).trans bp1_1
  obtain ⟨buy0, nuy0, cuy0, rfl⟩ := oDb_form y0
  obtain ⟨w9, hw9⟩ : ∃ W, W = w8.alloc (.cells #[.slice buy0 nuy0 cuy0] 34) := ⟨_, rfl⟩
  have z9 : Below w8.heap.size w8 w9 := by rw [hw9]; exact (Below.refl _ _).alloc (Nat.le_refl _) _
  have s9 : w9.heap.size = w8.heap.size + 1 := by rw [hw9]; simp
  have hb9 := on hb8 z9
  replace W0 := W0.below z9 (by omega)
  replace y0 := y0.below z9 (by omega)
  replace bp0_0 := (z9.cell (p := ⟨w.heap.size, 0, none⟩) (by simp only []; omega)).trans bp0_0
  replace bp1_0 := (z9.cell (p := ⟨w.heap.size + 1, 0, none⟩) (by simp only []; omega)).trans bp1_0
  replace bp1_1 := (z9.cell (p := ⟨w.heap.size + 1, 1, none⟩) (by simp only []; omega)).trans bp1_1
  have by0_0 : w9.cell? ⟨w8.heap.size, 0, none⟩ = some (.slice buy0 nuy0 cuy0) := by rw [hw9]; exact box_cell (Below.refl _ _) rfl
  have raw_bp0_0 := bp0_0
  rw [hw9] at raw_bp0_0
  have raw_bp1_0 := bp1_0
  rw [hw9] at raw_bp1_0
  have raw_bp1_1 := bp1_1
  rw [hw9] at raw_bp1_1
  have raw_by0_0 := by0_0
  rw [hw9] at raw_by0_0
  go_wp2_with fail
  rw [← hw9]
  clear hw9
  clear raw_bp0_0 raw_bp1_0 raw_bp1_1 raw_by0_0
  refine (to_Q _ _ _ (rQ.mono h1 hb9) (by omega)).mono ?_
  rintro e w10 ⟨cy1, rfl, y1, z10⟩
  have s10 := z10.size
  have hb10 := on hb9 z10
  replace W0 := W0.below z10 (by omega)
  replace y0 := y0.below z10 (by omega)
  replace bp0_0 := (z10.cell (p := ⟨w.heap.size, 0, none⟩) (by simp only []; omega)).trans bp0_0
  replace bp1_0 := (z10.cell (p := ⟨w.heap.size + 1, 0, none⟩) (by simp only []; omega)).trans bp1_0
  replace bp1_1 := (z10.cell (p := ⟨w.heap.size + 1, 1, none⟩) (by simp only []; omega)).trans bp1_1
  replace by0_0 := (z10.cell (p := ⟨w8.heap.size, 0, none⟩) (by simp only []; omega)).trans by0_0
  obtain ⟨buy1, nuy1, cuy1, rfl⟩ := oQ_form y1
  obtain ⟨w11, hw11⟩ : ∃ W, W = w10.alloc (.cells #[.int .i64 x1.1, .slice buy1 nuy1 cuy1] 38) := ⟨_, rfl⟩
  have z11 : Below w10.heap.size w10 w11 := by rw [hw11]; exact (Below.refl _ _).alloc (Nat.le_refl _) _
  have s11 : w11.heap.size = w10.heap.size + 1 := by rw [hw11]; simp
  have hb11 := on hb10 z11
  replace W0 := W0.below z11 (by omega)
  replace y0 := y0.below z11 (by omega)
  replace y1 := y1.below z11 (by omega)
  replace bp0_0 := (z11.cell (p := ⟨w.heap.size, 0, none⟩) (by simp only []; omega)).trans bp0_0
  replace bp1_0 := (z11.cell (p := ⟨w.heap.size + 1, 0, none⟩) (by simp only []; omega)).trans bp1_0
  replace bp1_1 := (z11.cell (p := ⟨w.heap.size + 1, 1, none⟩) (by simp only []; omega)).trans bp1_1
  replace by0_0 := (z11.cell (p := ⟨w8.heap.size, 0, none⟩) (by simp only []; omega)).trans by0_0
  have by1_0 : w11.cell? ⟨w10.heap.size, 0, none⟩ = some (.int .i64 x1.1) := by rw [hw11]; exact box_cell (Below.refl _ _) rfl
  have by1_1 : w11.cell? ⟨w10.heap.size, 1, none⟩ = some (.slice buy1 nuy1 cuy1) := by rw [hw11]; exact box_cell (Below.refl _ _) rfl
  have raw_bp0_0 := bp0_0
  rw [hw11] at raw_bp0_0
  have raw_bp1_0 := bp1_0
  rw [hw11] at raw_bp1_0
  have raw_bp1_1 := bp1_1
  rw [hw11] at raw_bp1_1
  have raw_by0_0 := by0_0
  rw [hw11] at raw_by0_0
  have raw_by1_0 := by1_0
  rw [hw11] at raw_by1_0
  have raw_by1_1 := by1_1
  rw [hw11] at raw_by1_1
  go_wp2_with fail
  rw [← hw11]
  clear hw11
  clear raw_bp0_0 raw_bp1_0 raw_bp1_1 raw_by0_0 raw_by1_0 raw_by1_1
  refine (sizes_impl _ _ x0 x1 _ (y0.rd reads_Db) (y1.rd reads_Q)).mono ?_
  rintro e w12 ⟨cG0, rfl, G0, z12⟩
  have s12 := z12.size
  have hb12 := on hb11 z12
  replace W0 := W0.below z12 (by omega)
  replace y0 := y0.below z12 (by omega)
  replace y1 := y1.below z12 (by omega)
  replace bp0_0 := (z12.cell (p := ⟨w.heap.size, 0, none⟩) (by simp only []; omega)).trans bp0_0
  replace bp1_0 := (z12.cell (p := ⟨w.heap.size + 1, 0, none⟩) (by simp only []; omega)).trans bp1_0
  replace bp1_1 := (z12.cell (p := ⟨w.heap.size + 1, 1, none⟩) (by simp only []; omega)).trans bp1_1
  replace by0_0 := (z12.cell (p := ⟨w8.heap.size, 0, none⟩) (by simp only []; omega)).trans by0_0
  replace by1_0 := (z12.cell (p := ⟨w10.heap.size, 0, none⟩) (by simp only []; omega)).trans by1_0
  replace by1_1 := (z12.cell (p := ⟨w10.heap.size, 1, none⟩) (by simp only []; omega)).trans by1_1
  go_wp2_with fail
  refine (eq_I _ _ _ _ _ (G0.rd reads_I) (W0.rd reads_I)).mono ?_
  rintro e w13 ⟨rfl, z13⟩
  replace z13 : Below w12.heap.size w12 w13 := z13.below _
  have s13 := z13.size
  have hb13 := on hb12 z13
  replace W0 := W0.below z13 (by omega)
  replace y0 := y0.below z13 (by omega)
  replace y1 := y1.below z13 (by omega)
  replace G0 := G0.below z13 (by omega)
  replace bp0_0 := (z13.cell (p := ⟨w.heap.size, 0, none⟩) (by simp only []; omega)).trans bp0_0
  replace bp1_0 := (z13.cell (p := ⟨w.heap.size + 1, 0, none⟩) (by simp only []; omega)).trans bp1_0
  replace bp1_1 := (z13.cell (p := ⟨w.heap.size + 1, 1, none⟩) (by simp only []; omega)).trans bp1_1
  replace by0_0 := (z13.cell (p := ⟨w8.heap.size, 0, none⟩) (by simp only []; omega)).trans by0_0
  replace by1_0 := (z13.cell (p := ⟨w10.heap.size, 0, none⟩) (by simp only []; omega)).trans by1_0
  replace by1_1 := (z13.cell (p := ⟨w10.heap.size, 1, none⟩) (by simp only []; omega)).trans by1_1
  go_wp2_with fail
  go_region_held3 (fun W => W.cell? ⟨w8.heap.size, 0, none⟩ = some (.slice buy0 nuy0 cuy0) ∧ W.cell? ⟨w.heap.size, 0, none⟩ = some (.slice bu0 nu0 cu0)) (first | exact ⟨by0_0, bp0_0⟩ | assumption) (first | (go_at_call 10; refine (to_Db _ x0 _ (rDb.mono h0 hb13.drew) (by omega)).mono ?_; rintro e w14 ⟨du0, rfl, u0, z14⟩; replace z14 : Below w13.heap.size w13 w14 := (Below.refl _ _).drew.trans z14; have hS0 := (⟨(z14.cell (p := ⟨w8.heap.size, 0, none⟩) (by simp only []; omega)).trans by0_0, (z14.cell (p := ⟨w.heap.size, 0, none⟩) (by simp only []; omega)).trans bp0_0⟩ : (fun W => W.cell? ⟨w8.heap.size, 0, none⟩ = some (.slice buy0 nuy0 cuy0) ∧ W.cell? ⟨w.heap.size, 0, none⟩ = some (.slice bu0 nu0 cu0)) w14); obtain ⟨buu0, nuu0, cuu0, rfl⟩ := oDb_form u0; have y0' := y0.below z14 (by omega)) | (go_at_call 14; refine (eq_Db _ _ x0 x0 _ (y0'.rd reads_Db) (u0.rd reads_Db)).mono ?_; rintro e w15 ⟨rfl, z15⟩; have s14 := z14.size; have hT0 := (⟨(z15.cell (p := ⟨w8.heap.size, 0, none⟩) (by simp only []; omega)).trans hS0.1, (z15.cell (p := ⟨w.heap.size, 0, none⟩) (by simp only []; omega)).trans hS0.2⟩ : (fun W => W.cell? ⟨w8.heap.size, 0, none⟩ = some (.slice buy0 nuy0 cuy0) ∧ W.cell? ⟨w.heap.size, 0, none⟩ = some (.slice bu0 nu0 cu0)) w15)))
  replace z14 : Below w13.heap.size w13 w14 := z14
  clear u0 y0' hS0 hT0
  have t14 := z14.size
  have hb14 := on hb13 z14
  replace W0 := W0.below z14 (by omega)
  replace y0 := y0.below z14 (by omega)
  replace y1 := y1.below z14 (by omega)
  replace G0 := G0.below z14 (by omega)
  replace bp0_0 := (z14.cell (p := ⟨w.heap.size, 0, none⟩) (by simp only []; omega)).trans bp0_0
  replace bp1_0 := (z14.cell (p := ⟨w.heap.size + 1, 0, none⟩) (by simp only []; omega)).trans bp1_0
  replace bp1_1 := (z14.cell (p := ⟨w.heap.size + 1, 1, none⟩) (by simp only []; omega)).trans bp1_1
  replace by0_0 := (z14.cell (p := ⟨w8.heap.size, 0, none⟩) (by simp only []; omega)).trans by0_0
  replace by1_0 := (z14.cell (p := ⟨w10.heap.size, 0, none⟩) (by simp only []; omega)).trans by1_0
  replace by1_1 := (z14.cell (p := ⟨w10.heap.size, 1, none⟩) (by simp only []; omega)).trans by1_1
  have t15 := z15.size
  have hb15 := on hb14 z15
  replace W0 := W0.below z15 (by omega)
  replace y0 := y0.below z15 (by omega)
  replace y1 := y1.below z15 (by omega)
  replace G0 := G0.below z15 (by omega)
  replace bp0_0 := (z15.cell (p := ⟨w.heap.size, 0, none⟩) (by simp only []; omega)).trans bp0_0
  replace bp1_0 := (z15.cell (p := ⟨w.heap.size + 1, 0, none⟩) (by simp only []; omega)).trans bp1_0
  replace bp1_1 := (z15.cell (p := ⟨w.heap.size + 1, 1, none⟩) (by simp only []; omega)).trans bp1_1
  replace by0_0 := (z15.cell (p := ⟨w8.heap.size, 0, none⟩) (by simp only []; omega)).trans by0_0
  replace by1_0 := (z15.cell (p := ⟨w10.heap.size, 0, none⟩) (by simp only []; omega)).trans by1_0
  replace by1_1 := (z15.cell (p := ⟨w10.heap.size, 1, none⟩) (by simp only []; omega)).trans by1_1
  go_wp2_with fail
  go_region_held3 (fun W => W.cell? ⟨w10.heap.size, 0, none⟩ = some (.int .i64 x1.1) ∧ W.cell? ⟨w10.heap.size, 1, none⟩ = some (.slice buy1 nuy1 cuy1) ∧ W.cell? ⟨w.heap.size + 1, 0, none⟩ = some (.int .i64 x1.1) ∧ W.cell? ⟨w.heap.size + 1, 1, none⟩ = some (.slice bu1 nu1 cu1)) (first | exact ⟨by1_0, by1_1, bp1_0, bp1_1⟩ | assumption) (first | (go_at_call 11; refine (to_Q _ x1 _ (rQ.mono h1 hb15.drew) (by omega)).mono ?_; rintro e w16 ⟨du1, rfl, u1, z16⟩; replace z16 : Below w15.heap.size w15 w16 := (Below.refl _ _).drew.trans z16; have hS1 := (⟨(z16.cell (p := ⟨w10.heap.size, 0, none⟩) (by simp only []; omega)).trans by1_0, (z16.cell (p := ⟨w10.heap.size, 1, none⟩) (by simp only []; omega)).trans by1_1, (z16.cell (p := ⟨w.heap.size + 1, 0, none⟩) (by simp only []; omega)).trans bp1_0, (z16.cell (p := ⟨w.heap.size + 1, 1, none⟩) (by simp only []; omega)).trans bp1_1⟩ : (fun W => W.cell? ⟨w10.heap.size, 0, none⟩ = some (.int .i64 x1.1) ∧ W.cell? ⟨w10.heap.size, 1, none⟩ = some (.slice buy1 nuy1 cuy1) ∧ W.cell? ⟨w.heap.size + 1, 0, none⟩ = some (.int .i64 x1.1) ∧ W.cell? ⟨w.heap.size + 1, 1, none⟩ = some (.slice bu1 nu1 cu1)) w16); obtain ⟨buu1, nuu1, cuu1, rfl⟩ := oQ_form u1; have y1' := y1.below z16 (by omega)) | (go_at_call 15; refine (eq_Q _ _ x1 x1 _ (y1'.rd reads_Q) (u1.rd reads_Q)).mono ?_; rintro e w17 ⟨rfl, z17⟩; have s16 := z16.size; have hT1 := (⟨(z17.cell (p := ⟨w10.heap.size, 0, none⟩) (by simp only []; omega)).trans hS1.1, (z17.cell (p := ⟨w10.heap.size, 1, none⟩) (by simp only []; omega)).trans hS1.2.1, (z17.cell (p := ⟨w.heap.size + 1, 0, none⟩) (by simp only []; omega)).trans hS1.2.2.1, (z17.cell (p := ⟨w.heap.size + 1, 1, none⟩) (by simp only []; omega)).trans hS1.2.2.2⟩ : (fun W => W.cell? ⟨w10.heap.size, 0, none⟩ = some (.int .i64 x1.1) ∧ W.cell? ⟨w10.heap.size, 1, none⟩ = some (.slice buy1 nuy1 cuy1) ∧ W.cell? ⟨w.heap.size + 1, 0, none⟩ = some (.int .i64 x1.1) ∧ W.cell? ⟨w.heap.size + 1, 1, none⟩ = some (.slice bu1 nu1 cu1)) w17)))
  replace z16 : Below w15.heap.size w15 w16 := z16
  clear u1 y1' hS1 hT1
  have t16 := z16.size
  have hb16 := on hb15 z16
  replace W0 := W0.below z16 (by omega)
  replace y0 := y0.below z16 (by omega)
  replace y1 := y1.below z16 (by omega)
  replace G0 := G0.below z16 (by omega)
  replace bp0_0 := (z16.cell (p := ⟨w.heap.size, 0, none⟩) (by simp only []; omega)).trans bp0_0
  replace bp1_0 := (z16.cell (p := ⟨w.heap.size + 1, 0, none⟩) (by simp only []; omega)).trans bp1_0
  replace bp1_1 := (z16.cell (p := ⟨w.heap.size + 1, 1, none⟩) (by simp only []; omega)).trans bp1_1
  replace by0_0 := (z16.cell (p := ⟨w8.heap.size, 0, none⟩) (by simp only []; omega)).trans by0_0
  replace by1_0 := (z16.cell (p := ⟨w10.heap.size, 0, none⟩) (by simp only []; omega)).trans by1_0
  replace by1_1 := (z16.cell (p := ⟨w10.heap.size, 1, none⟩) (by simp only []; omega)).trans by1_1
  have t17 := z17.size
  have hb17 := on hb16 z17
  replace W0 := W0.below z17 (by omega)
  replace y0 := y0.below z17 (by omega)
  replace y1 := y1.below z17 (by omega)
  replace G0 := G0.below z17 (by omega)
  replace bp0_0 := (z17.cell (p := ⟨w.heap.size, 0, none⟩) (by simp only []; omega)).trans bp0_0
  replace bp1_0 := (z17.cell (p := ⟨w.heap.size + 1, 0, none⟩) (by simp only []; omega)).trans bp1_0
  replace bp1_1 := (z17.cell (p := ⟨w.heap.size + 1, 1, none⟩) (by simp only []; omega)).trans bp1_1
  replace by0_0 := (z17.cell (p := ⟨w8.heap.size, 0, none⟩) (by simp only []; omega)).trans by0_0
  replace by1_0 := (z17.cell (p := ⟨w10.heap.size, 0, none⟩) (by simp only []; omega)).trans by1_0
  replace by1_1 := (z17.cell (p := ⟨w10.heap.size, 1, none⟩) (by simp only []; omega)).trans by1_1
  have hct0 := cnt_le_Db x0
  have hct1 := cnt_le_Q x1
  go_wp2_with fail
  refine (mark_Db _ x0 (1) w7.heap.size w8.heap.size _ y0 (by omega) (by omega) (by omega) (by omega)).mono ?_
  rintro e w18 ⟨rfl, y0m, z18⟩
  have s18 := z18.size
  have hb18 := hb17.trans ((z18.below (by omega)).mono (by omega))
  replace W0 := W0.turn z18 (by omega)
  replace y1 := y1.turn z18 (by omega)
  replace G0 := G0.turn z18 (by omega)
  replace bp0_0 := (z18.cell (p := ⟨w.heap.size, 0, none⟩) (by simp only []; omega) (by simp only []; omega)).trans bp0_0
  replace bp1_0 := (z18.cell (p := ⟨w.heap.size + 1, 0, none⟩) (by simp only []; omega) (by simp only []; omega)).trans bp1_0
  replace bp1_1 := (z18.cell (p := ⟨w.heap.size + 1, 1, none⟩) (by simp only []; omega) (by simp only []; omega)).trans bp1_1
  replace by0_0 := (z18.cell (p := ⟨w8.heap.size, 0, none⟩) (by simp only []; omega) (by simp only []; omega)).trans by0_0
  replace by1_0 := (z18.cell (p := ⟨w10.heap.size, 0, none⟩) (by simp only []; omega) (by simp only []; omega)).trans by1_0
  replace by1_1 := (z18.cell (p := ⟨w10.heap.size, 1, none⟩) (by simp only []; omega) (by simp only []; omega)).trans by1_1
  clear y0
  clear y0m
  go_wp2_with fail
  refine (mark_Q _ x1 (1 + (cnt_Db x0 : Int)) w9.heap.size w10.heap.size _ y1 (by omega) (by omega) (by omega) (by omega)).mono ?_
  rintro e w19 ⟨rfl, y1m, z19⟩
  have s19 := z19.size
  have hb19 := hb18.trans ((z19.below (by omega)).mono (by omega))
  replace W0 := W0.turn z19 (by omega)
  replace G0 := G0.turn z19 (by omega)
  replace bp0_0 := (z19.cell (p := ⟨w.heap.size, 0, none⟩) (by simp only []; omega) (by simp only []; omega)).trans bp0_0
  replace bp1_0 := (z19.cell (p := ⟨w.heap.size + 1, 0, none⟩) (by simp only []; omega) (by simp only []; omega)).trans bp1_0
  replace bp1_1 := (z19.cell (p := ⟨w.heap.size + 1, 1, none⟩) (by simp only []; omega) (by simp only []; omega)).trans bp1_1
  replace by0_0 := (z19.cell (p := ⟨w8.heap.size, 0, none⟩) (by simp only []; omega) (by simp only []; omega)).trans by0_0
  replace by1_0 := (z19.cell (p := ⟨w10.heap.size, 0, none⟩) (by simp only []; omega) (by simp only []; omega)).trans by1_0
  replace by1_1 := (z19.cell (p := ⟨w10.heap.size, 1, none⟩) (by simp only []; omega) (by simp only []; omega)).trans by1_1
  clear y1
  clear y1m
  go_wp2_with fail
  refine (eq_I _ _ _ _ _ (G0.rd reads_I) (W0.rd reads_I)).mono ?_
  rintro e w20 ⟨rfl, z20⟩
  replace z20 : Below w19.heap.size w19 w20 := z20.below _
  have s20 := z20.size
  have hb20 := on hb19 z20
  replace W0 := W0.below z20 (by omega)
  replace G0 := G0.below z20 (by omega)
  replace bp0_0 := (z20.cell (p := ⟨w.heap.size, 0, none⟩) (by simp only []; omega)).trans bp0_0
  replace bp1_0 := (z20.cell (p := ⟨w.heap.size + 1, 0, none⟩) (by simp only []; omega)).trans bp1_0
  replace bp1_1 := (z20.cell (p := ⟨w.heap.size + 1, 1, none⟩) (by simp only []; omega)).trans bp1_1
  replace by0_0 := (z20.cell (p := ⟨w8.heap.size, 0, none⟩) (by simp only []; omega)).trans by0_0
  replace by1_0 := (z20.cell (p := ⟨w10.heap.size, 0, none⟩) (by simp only []; omega)).trans by1_0
  replace by1_1 := (z20.cell (p := ⟨w10.heap.size, 1, none⟩) (by simp only []; omega)).trans by1_1
  have hrb0 := sizes_cnt x0 x1
  go_wp2_with fail
  refine (mark_I _ _ (1) w11.heap.size w12.heap.size _ G0 (by omega) (by omega) (by omega)).mono ?_
  rintro e w21 ⟨rfl, M0, z21⟩
  have s21 := z21.size
  have hb21 := hb20.trans ((z21.below (by omega)).mono (by omega))
  replace W0 := W0.turn z21 (by omega)
  replace bp0_0 := (z21.cell (p := ⟨w.heap.size, 0, none⟩) (by simp only []; omega) (by simp only []; omega)).trans bp0_0
  replace bp1_0 := (z21.cell (p := ⟨w.heap.size + 1, 0, none⟩) (by simp only []; omega) (by simp only []; omega)).trans bp1_0
  replace bp1_1 := (z21.cell (p := ⟨w.heap.size + 1, 1, none⟩) (by simp only []; omega) (by simp only []; omega)).trans bp1_1
  replace by0_0 := (z21.cell (p := ⟨w8.heap.size, 0, none⟩) (by simp only []; omega) (by simp only []; omega)).trans by0_0
  replace by1_0 := (z21.cell (p := ⟨w10.heap.size, 0, none⟩) (by simp only []; omega) (by simp only []; omega)).trans by1_0
  replace by1_1 := (z21.cell (p := ⟨w10.heap.size, 1, none⟩) (by simp only []; omega) (by simp only []; omega)).trans by1_1
  clear G0
  go_wp2_with fail
  refine (held_I _ _ (1) _ (M0.rd reads_I) (by omega) (by omega)).mono ?_
  rintro e w' ⟨rfl, rfl⟩
  go_wp2_with fail
  go_region_held3 (fun W => W.cell? ⟨w.heap.size, 0, none⟩ = some (.slice bu0 nu0 cu0) ∧ W.cell? ⟨w.heap.size + 1, 0, none⟩ = some (.int .i64 x1.1) ∧ W.cell? ⟨w.heap.size + 1, 1, none⟩ = some (.slice bu1 nu1 cu1)) (first | exact ⟨bp0_0, bp1_0, bp1_1⟩ | assumption) (first | (go_at_call 10; with_reducible (show Calls Tryz.prog 10 #[.agg #[.slice bu0 nu0 cu0]] _ _); refine (to_Db _ x0 _ (rDb.mono h0 hb21.drew) (by omega)).mono ?_; rintro e w22 ⟨cp0, rfl, p0, z22⟩; replace z22 : Below w21.heap.size w21 w22 := on (Below.refl _ _).drew z22; have sz22 := z22.size; obtain ⟨bup0, nup0, cup0, rfl⟩ := oDb_form p0; have hS22 := (⟨(z22.cell (p := ⟨w.heap.size, 0, none⟩) (by simp only []; omega)).trans bp0_0, (z22.cell (p := ⟨w.heap.size + 1, 0, none⟩) (by simp only []; omega)).trans bp1_0, (z22.cell (p := ⟨w.heap.size + 1, 1, none⟩) (by simp only []; omega)).trans bp1_1⟩ : (fun W => W.cell? ⟨w.heap.size, 0, none⟩ = some (.slice bu0 nu0 cu0) ∧ W.cell? ⟨w.heap.size + 1, 0, none⟩ = some (.int .i64 x1.1) ∧ W.cell? ⟨w.heap.size + 1, 1, none⟩ = some (.slice bu1 nu1 cu1)) w22); have hx22 := on hb21 z22) | (go_at_call 11; with_reducible (show Calls Tryz.prog 11 #[.agg #[.int .i64 x1.1, .slice bu1 nu1 cu1]] _ _); refine (to_Q _ x1 _ (rQ.mono h1 hx22) (by omega)).mono ?_; rintro e w23 ⟨cp1, rfl, p1, z23⟩; have sz23 := z23.size; obtain ⟨bup1, nup1, cup1, rfl⟩ := oQ_form p1; replace p0 := p0.below z23 (by omega); have hS23 := (⟨(z23.cell (p := ⟨w.heap.size, 0, none⟩) (by simp only []; omega)).trans hS22.1, (z23.cell (p := ⟨w.heap.size + 1, 0, none⟩) (by simp only []; omega)).trans hS22.2.1, (z23.cell (p := ⟨w.heap.size + 1, 1, none⟩) (by simp only []; omega)).trans hS22.2.2⟩ : (fun W => W.cell? ⟨w.heap.size, 0, none⟩ = some (.slice bu0 nu0 cu0) ∧ W.cell? ⟨w.heap.size + 1, 0, none⟩ = some (.int .i64 x1.1) ∧ W.cell? ⟨w.heap.size + 1, 1, none⟩ = some (.slice bu1 nu1 cu1)) w23); have hx23 := on hx22 z23) | (go_at_call 12; refine (sizes_impl _ _ x0 x1 _ (p0.rd reads_Db) (p1.rd reads_Q)).mono ?_; rintro e w24 ⟨cH0, rfl, H0, z24⟩; have sz24 := z24.size; replace p0 := p0.below z24 (by omega); replace p1 := p1.below z24 (by omega); have hS24 := (⟨(z24.cell (p := ⟨w.heap.size, 0, none⟩) (by simp only []; omega)).trans hS23.1, (z24.cell (p := ⟨w.heap.size + 1, 0, none⟩) (by simp only []; omega)).trans hS23.2.1, (z24.cell (p := ⟨w.heap.size + 1, 1, none⟩) (by simp only []; omega)).trans hS23.2.2⟩ : (fun W => W.cell? ⟨w.heap.size, 0, none⟩ = some (.slice bu0 nu0 cu0) ∧ W.cell? ⟨w.heap.size + 1, 0, none⟩ = some (.int .i64 x1.1) ∧ W.cell? ⟨w.heap.size + 1, 1, none⟩ = some (.slice bu1 nu1 cu1)) w24); have hx24 := on hx23 z24))
  replace z22 : Below w21.heap.size w21 w22 := z22
  replace z23 : Below w22.heap.size w22 w23 := z23
  replace z24 : Below w23.heap.size w23 w24 := z24
  clear hS22 hx22 hS23 hx23 hS24 hx24 p0 p1
  have t22 := z22.size
  have hb22 := on hb21 z22
  replace W0 := W0.below z22 (by omega)
  replace M0 := M0.below z22 (by omega)
  replace bp0_0 := (z22.cell (p := ⟨w.heap.size, 0, none⟩) (by simp only []; omega)).trans bp0_0
  replace bp1_0 := (z22.cell (p := ⟨w.heap.size + 1, 0, none⟩) (by simp only []; omega)).trans bp1_0
  replace bp1_1 := (z22.cell (p := ⟨w.heap.size + 1, 1, none⟩) (by simp only []; omega)).trans bp1_1
  replace by0_0 := (z22.cell (p := ⟨w8.heap.size, 0, none⟩) (by simp only []; omega)).trans by0_0
  replace by1_0 := (z22.cell (p := ⟨w10.heap.size, 0, none⟩) (by simp only []; omega)).trans by1_0
  replace by1_1 := (z22.cell (p := ⟨w10.heap.size, 1, none⟩) (by simp only []; omega)).trans by1_1
  have t23 := z23.size
  have hb23 := on hb22 z23
  replace W0 := W0.below z23 (by omega)
  replace M0 := M0.below z23 (by omega)
  replace bp0_0 := (z23.cell (p := ⟨w.heap.size, 0, none⟩) (by simp only []; omega)).trans bp0_0
  replace bp1_0 := (z23.cell (p := ⟨w.heap.size + 1, 0, none⟩) (by simp only []; omega)).trans bp1_0
  replace bp1_1 := (z23.cell (p := ⟨w.heap.size + 1, 1, none⟩) (by simp only []; omega)).trans bp1_1
  replace by0_0 := (z23.cell (p := ⟨w8.heap.size, 0, none⟩) (by simp only []; omega)).trans by0_0
  replace by1_0 := (z23.cell (p := ⟨w10.heap.size, 0, none⟩) (by simp only []; omega)).trans by1_0
  replace by1_1 := (z23.cell (p := ⟨w10.heap.size, 1, none⟩) (by simp only []; omega)).trans by1_1
  have t24 := z24.size
  have hb24 := on hb23 z24
  replace W0 := W0.below z24 (by omega)
  replace M0 := M0.below z24 (by omega)
  replace bp0_0 := (z24.cell (p := ⟨w.heap.size, 0, none⟩) (by simp only []; omega)).trans bp0_0
  replace bp1_0 := (z24.cell (p := ⟨w.heap.size + 1, 0, none⟩) (by simp only []; omega)).trans bp1_0
  replace bp1_1 := (z24.cell (p := ⟨w.heap.size + 1, 1, none⟩) (by simp only []; omega)).trans bp1_1
  replace by0_0 := (z24.cell (p := ⟨w8.heap.size, 0, none⟩) (by simp only []; omega)).trans by0_0
  replace by1_0 := (z24.cell (p := ⟨w10.heap.size, 0, none⟩) (by simp only []; omega)).trans by1_0
  replace by1_1 := (z24.cell (p := ⟨w10.heap.size, 1, none⟩) (by simp only []; omega)).trans by1_1
  go_wp2_with fail
  refine (eq_I _ _ _ _ _ (H0.rd reads_I) (W0.rd reads_I)).mono ?_
  rintro e w25 ⟨rfl, z25⟩
  replace z25 : Below w24.heap.size w24 w25 := z25.below _
  have s25 := z25.size
  have hb25 := on hb24 z25
  replace W0 := W0.below z25 (by omega)
  replace M0 := M0.below z25 (by omega)
  replace H0 := H0.below z25 (by omega)
  replace bp0_0 := (z25.cell (p := ⟨w.heap.size, 0, none⟩) (by simp only []; omega)).trans bp0_0
  replace bp1_0 := (z25.cell (p := ⟨w.heap.size + 1, 0, none⟩) (by simp only []; omega)).trans bp1_0
  replace bp1_1 := (z25.cell (p := ⟨w.heap.size + 1, 1, none⟩) (by simp only []; omega)).trans bp1_1
  replace by0_0 := (z25.cell (p := ⟨w8.heap.size, 0, none⟩) (by simp only []; omega)).trans by0_0
  replace by1_0 := (z25.cell (p := ⟨w10.heap.size, 0, none⟩) (by simp only []; omega)).trans by1_0
  replace by1_1 := (z25.cell (p := ⟨w10.heap.size, 1, none⟩) (by simp only []; omega)).trans by1_1
  go_wp2_with fail
  refine (held_I _ _ (1) _ (M0.rd reads_I) (by omega) (by omega)).mono ?_
  rintro e w' ⟨rfl, rfl⟩
  go_wp2_with fail
  go_ret
  exact ⟨rfl, hb25⟩

end Go.Proofs.YtkipgbgkhffkkaaGreat
