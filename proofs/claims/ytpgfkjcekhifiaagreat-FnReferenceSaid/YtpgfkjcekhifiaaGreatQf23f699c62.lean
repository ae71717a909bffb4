/- Texts joined for one claim: EvalS, RefP. -/
import Derived.Test.YtpgfkjcekhifiaaGreatQe819c45158
import Derived.Test.YtpgfkjcekhifiaaGreatQad766b37ad
import Derived.Test.YtpgfkjcekhifiaaGreatQ94813783a4
import Derived.Test.YtpgfkjcekhifiaaGreatQ53ae14c1bb
import Derived.Test.YtpgfkjcekhifiaaGreatQ52736f1836
import Derived.Deep.RegionHeld3

namespace Go.Proofs.YtpgfkjcekhifiaaGreat

open Go.RowKit

set_option linter.unusedVariables false

set_option linter.unusedSimpArgs false

set_option synthInstance.maxSize 2000

set_option synthInstance.maxHeartbeats 400000

theorem infoT : (Tryz.prog.info? 44).map (fun i => (i.zero, i.size, i.bytes)) = some (some (.agg #[.string ⟨#[]⟩, .int .i64 0, .slice none 0 0]), 3, 48) := by kernel_rfl

theorem infoA : (Tryz.prog.info? 48).map (fun i => (i.zero, i.size, i.bytes)) = some (some (.agg #[.string ⟨#[]⟩, .slice none 0 0]), 2, 40) := by kernel_rfl

set_option maxRecDepth 100000 in
set_option maxHeartbeats 8000000 in
theorem eval_spec (cs ds : List Value) (db : DDb) (x : DQ) (k : Int) (w : World) (h : rDb.rep w cs db) (h' : rQ.rep w ds x) (hk : I64 k) :
    Calls Tryz.prog 7 #[.agg cs.toArray, .agg ds.toArray, .int .i64 k] w fun e w' => ∃ us, e = .returned (.tuple #[.agg us.toArray, .bool (evalOk db x k)]) ∧ Own oAn w.heap.size w'.heap.size w' us (evalM db x k) ∧ Below w.heap.size w w' := by
  have HQF := Lib.hid (fun W (hW : Below w.heap.size w W) => queryFor_spec cs ds db x W (rDb.mono h hW) (rQ.mono h' hW))
  have HFM := Lib.hid (fun W (hW : Below w.heap.size w W) => fullMask_spec ds x W (rQ.mono h' hW))
  have HMV := Lib.hid (fun W (hW : Below w.heap.size w W) => maskVars_spec ds x k W (rQ.mono h' hW))
  obtain ⟨ub, un, uc, rfl, g1⟩ := rDb_open h
  obtain ⟨qb, qn, qc, rfl, hi2, gq⟩ := rQ_open h'
  have HCK := Lib.hid (fun name W (hW : Below w.heap.size w W) => lookS_any [.slice ub un uc] db name W (rDb.mono h hW))
  have HE0 : Hid (evalOk db x k = false → evalM db x k = ([], [])) := Lib.hid evalM_no
  have HE1 : Hid (evalOk db x k = true → ∃ K : Nat, k = K ∧ K < 16 ∧ evalM db x k = evalK db x K ∧ maskVars x k = varsOf x K ∧ x.2.length ≤ 4 ∧ (∀ a ∈ x.2, ∀ r ∈ (lookT (look db a.1)).2.2, r.length = a.2.length)) := Lib.hid (fun h9 => by
    obtain ⟨hf, hv, K, rfl, hK1, hK2, hmo⟩ := evalOk_valid h9
    obtain ⟨n, hq⟩ := QOk.of hv
    refine ⟨K, rfl, ?_, evalM_yes h9, maskVars_yes hmo, hq.len, fun a ha => (atom_fits hf ha).2⟩
    have := Nat.pow_le_pow_right (show 0 < 2 by omega) hq.len
    omega)
  have HEO : Hid (evalOk db x k = (queryFor db x && betw k 1 (fullMask x))) := rfl
  obtain ⟨ok, hok⟩ : ∃ ok, evalOk db x k = ok := ⟨_, rfl⟩
  obtain ⟨E, hE⟩ : ∃ E, evalM db x k = E := ⟨_, rfl⟩
  obtain ⟨qf, hqf⟩ : ∃ qf, queryFor db x = qf := ⟨_, rfl⟩
  obtain ⟨fm, hfm⟩ : ∃ fm, fullMask x = fm := ⟨_, rfl⟩
  obtain ⟨mv, hmv⟩ : ∃ mv, maskVars x k = mv := ⟨_, rfl⟩
  have hmv4 : mv.length ≤ 4 := by rw [← hmv]; exact maskVars_len x k
  rw [hok, hE] at HE0
  rw [hok, hE, hmv] at HE1
  rw [hok, hqf, hfm] at HEO
  rw [hqf] at HQF
  rw [hfm] at HFM
  rw [hmv] at HMV
  rw [hok, hE]
  obtain ⟨vq, xs⟩ := x
  simp only at hi2 gq HE1
  have t1 := rS_sl gq
  have hl := t1.len
  have hn := t1.small
  clear h h' g1 gq hok hE hqf hfm hmv
  have hb0 : Below w.heap.size w w := Below.refl _ _
  go_enter Tryz.func7, Tryz.ntmps7
  obtain ⟨w1, hw1⟩ : ∃ W, W = w.alloc (.cells #[.slice ub un uc] 26) := ⟨_, rfl⟩
  have z1 : Below w.heap.size w w1 := by rw [hw1]; exact (Below.refl _ _).alloc (Nat.le_refl _) _
  have s1 : w1.heap.size = w.heap.size + 1 := by rw [hw1]; simp
  have hb1 := on hb0 z1
  have b_0 : w1.cell? ⟨w.heap.size, 0, none⟩ = some (.slice ub un uc) := by rw [hw1]; exact box_cell (Below.refl _ _) rfl
  have b_f0 : w1.frozen? ⟨w.heap.size, 0, none⟩ = false := by rw [hw1]; exact box_frozen (Below.refl _ _)
  have raw1_b_0 := b_0
  rw [hw1] at raw1_b_0
  obtain ⟨w2, hw2⟩ : ∃ W, W = w1.alloc (.cells #[.int .i64 vq, .slice qb qn qc] 29) := ⟨_, rfl⟩
  have z2 : Below w1.heap.size w1 w2 := by rw [hw2]; exact (Below.refl _ _).alloc (Nat.le_refl _) _
  have s2 : w2.heap.size = w1.heap.size + 1 := by rw [hw2]; simp
  have hb2 := on hb1 z2
  replace b_0 := bxc z2 b_0
  replace b_f0 := bxf z2 b_f0
  have e2 : w1.heap.size = w.heap.size + 1 := by omega
  have q_0 : w2.cell? ⟨w1.heap.size, 0, none⟩ = some (.int .i64 vq) := by rw [hw2]; exact box_cell (Below.refl _ _) rfl
  have q_1 : w2.cell? ⟨w1.heap.size, 1, none⟩ = some (.slice qb qn qc) := by rw [hw2]; exact box_cell (Below.refl _ _) rfl
  rw [e2] at q_0 q_1
  have q_f0 : w2.frozen? ⟨w1.heap.size, 0, none⟩ = false := by rw [hw2]; exact box_frozen (Below.refl _ _)
  have q_f1 : w2.frozen? ⟨w1.heap.size, 1, none⟩ = false := by rw [hw2]; exact box_frozen (Below.refl _ _)
  rw [e2] at q_f0 q_f1
  have raw2_b_0 := b_0
  have raw2_q_0 := q_0
  have raw2_q_1 := q_1
  rw [hw2, hw1] at raw2_b_0 raw2_q_0 raw2_q_1
  obtain ⟨w3, hw3⟩ : ∃ W, W = w2.alloc (.cells #[.slice none 0 0, .slice none 0 0] 35) := ⟨_, rfl⟩
  have z3 : Below w2.heap.size w2 w3 := by rw [hw3]; exact (Below.refl _ _).alloc (Nat.le_refl _) _
  have s3 : w3.heap.size = w2.heap.size + 1 := by rw [hw3]; simp
  have hb3 := on hb2 z3
  replace b_0 := bxc z3 b_0
  replace b_f0 := bxf z3 b_f0
  replace q_0 := bxc z3 q_0
  replace q_1 := bxc z3 q_1
  replace q_f0 := bxf z3 q_f0
  replace q_f1 := bxf z3 q_f1
  have e3 : w2.heap.size = w.heap.size + 1 + 1 := by omega
  have r_0 : w3.cell? ⟨w2.heap.size, 0, none⟩ = some (.slice none 0 0) := by rw [hw3]; exact box_cell (Below.refl _ _) rfl
  have r_1 : w3.cell? ⟨w2.heap.size, 1, none⟩ = some (.slice none 0 0) := by rw [hw3]; exact box_cell (Below.refl _ _) rfl
  rw [e3] at r_0 r_1
  have r_f0 : w3.frozen? ⟨w2.heap.size, 0, none⟩ = false := by rw [hw3]; exact box_frozen (Below.refl _ _)
  have r_f1 : w3.frozen? ⟨w2.heap.size, 1, none⟩ = false := by rw [hw3]; exact box_frozen (Below.refl _ _)
  rw [e3] at r_f0 r_f1
  have raw3_b_0 := b_0
  have raw3_q_0 := q_0
  have raw3_q_1 := q_1
  have raw3_r_0 := r_0
  have raw3_r_1 := r_1
  rw [hw3, hw2, hw1] at raw3_b_0 raw3_q_0 raw3_q_1 raw3_r_0 raw3_r_1
  go_wp2_with fail
  rw [← hw1]
  rw [← hw2]
  rw [← hw3]
  clear hw3 hw2 hw1
  clear raw1_b_0 raw2_b_0 raw2_q_0 raw2_q_1 raw3_b_0 raw3_q_0 raw3_q_1 raw3_r_0 raw3_r_1
  refine (HQF.out _ hb3).mono ?_
  rintro e w7 ⟨rfl, z7⟩
  have s4 := z7.size
  have hb4 := on hb3 z7
  replace b_0 := bxc z7 b_0
  replace b_f0 := bxf z7 b_f0
  replace q_0 := bxc z7 q_0
  replace q_1 := bxc z7 q_1
  replace q_f0 := bxf z7 q_f0
  replace q_f1 := bxf z7 q_f1
  replace r_0 := bxc z7 r_0
  replace r_1 := bxc z7 r_1
  replace r_f0 := bxf z7 r_f0
  replace r_f1 := bxf z7 r_f1
  cases qf with
  | false =>
    have hkf : ok = false := by rw [HEO.out]; rfl
    subst hkf
    have HE := Lib.hid (HE0.out rfl)
    clear HE0 HE1 HEO t1
    go_wp2_with fail
    refine bodyPost_ret (v := .tuple #[.agg #[.slice none 0 0, .slice none 0 0], .bool false]) (by simp [results, Tryz.results7, go_sem, r_0, r_1, r_f0, r_f1]) rfl ⟨_, rfl, ?_, ?_⟩
    · rw [HE.out]
      exact oAn_mk (x := ([], [])) (l0 := w.heap.size) (m0 := w.heap.size) (l1 := w.heap.size) (m1 := w.heap.size) own_nil_S own_nil_S (by omega) (by simp [World.setCell]; omega) (by omega) (by simp [World.setCell]; omega) (by omega)
    · repeat (refine Below.setCell ?_ (by simp only []; omega) _)
      exact hb4
  | true =>
    go_wp2_with fail
    refine (HFM.out _ hb4).mono ?_
    rintro e w8 ⟨rfl, z8⟩
    have s5 := z8.size
    have hb5 := on hb4 z8
    replace b_0 := bxc z8 b_0
    replace b_f0 := bxf z8 b_f0
    replace q_0 := bxc z8 q_0
    replace q_1 := bxc z8 q_1
    replace q_f0 := bxf z8 q_f0
    replace q_f1 := bxf z8 q_f1
    replace r_0 := bxc z8 r_0
    replace r_1 := bxc z8 r_1
    replace r_f0 := bxf z8 r_f0
    replace r_f1 := bxf z8 r_f1
    have hin := l1In_any k 1 fm w8
    obtain ⟨bt, hbt⟩ : ∃ bt, betw k 1 fm = bt := ⟨_, rfl⟩
    rw [hbt] at hin HEO
    have HIN := Lib.hid hin
    clear hin hbt
    go_wp2_with fail
    refine HIN.out.mono ?_
    rintro e w' ⟨rfl, rfl⟩
    cases bt with
    | false =>
      have hkf : ok = false := by rw [HEO.out]; rfl
      subst hkf
      have HE := Lib.hid (HE0.out rfl)
      clear HE0 HE1 HEO t1
      go_wp2_with fail
      refine bodyPost_ret (v := .tuple #[.agg #[.slice none 0 0, .slice none 0 0], .bool false]) (by simp [results, Tryz.results7, go_sem, r_0, r_1, r_f0, r_f1]) rfl ⟨_, rfl, ?_, ?_⟩
      · rw [HE.out]
        exact oAn_mk (x := ([], [])) (l0 := w.heap.size) (m0 := w.heap.size) (l1 := w.heap.size) (m1 := w.heap.size) own_nil_S own_nil_S (by omega) (by simp [World.setCell]; omega) (by omega) (by simp [World.setCell]; omega) (by omega)
      · repeat (refine Below.setCell ?_ (by simp only []; omega) _)
        exact hb5
    | true =>
      have hkt : ok = true := by rw [HEO.out]; rfl
      subst hkt
      obtain ⟨K, rfl, hK, hEK, hMV, hx4, hfit⟩ := HE1.out rfl
      have HEK := Lib.hid hEK
      have HMVK := Lib.hid hMV
      have HFIT := Lib.hid hfit
      have hqn4 : qn ≤ 4 := by omega
      clear HE0 HE1 HEO hEK hMV hfit HIN HFM HQF hx4
      have v_b_0 := b_0
      have v_q_1 := q_1
      have v_q_0 := q_0
      have v_r_0 := r_0
      have v_r_1 := r_1
      have v_r_f0 := r_f0
      have v_r_f1 := r_f1
      have hLOs : w.heap.size + 3 ≤ w8.heap.size := by omega
      obtain ⟨w6, hw6⟩ : ∃ W, W = w8.alloc (.cells #[] 44) := ⟨_, rfl⟩
      have z6 : Below w8.heap.size w8 w6 := by rw [hw6]; exact (Below.refl _ _).alloc (Nat.le_refl _) _
      have s6 : w6.heap.size = w8.heap.size + 1 := by rw [hw6]; simp
      have hb6 := on hb5 z6
      replace b_0 := bxc z6 b_0
      replace b_f0 := bxf z6 b_f0
      replace q_0 := bxc z6 q_0
      replace q_1 := bxc z6 q_1
      replace q_f0 := bxf z6 q_f0
      replace q_f1 := bxf z6 q_f1
      replace r_0 := bxc z6 r_0
      replace r_1 := bxc z6 r_1
      replace r_f0 := bxf z6 r_f0
      replace r_f1 := bxf z6 r_f1
      have he1 : ∀ S, Acc 44 oT w8.heap.size S w6.heap.size w6 (.slice (some ⟨w8.heap.size, 0, none⟩) 0 0) [] := fun S => by rw [hw6]; exact Acc.empty (by omega) (by first | (simp; done) | (simp; omega))
      have raw6_b_0 := b_0
      have raw6_q_0 := q_0
      have raw6_q_1 := q_1
      have raw6_r_0 := r_0
      have raw6_r_1 := r_1
      rw [hw6] at raw6_b_0 raw6_q_0 raw6_q_1 raw6_r_0 raw6_r_1
      have ze1 := z6
      obtain ⟨w7, hw7⟩ : ∃ W, W = w6.alloc (.cells #[] 48) := ⟨_, rfl⟩
      have z7 : Below w6.heap.size w6 w7 := by rw [hw7]; exact (Below.refl _ _).alloc (Nat.le_refl _) _
      have s7 : w7.heap.size = w6.heap.size + 1 := by rw [hw7]; simp
      have hb7 := on hb6 z7
      replace b_0 := bxc z7 b_0
      replace b_f0 := bxf z7 b_f0
      replace q_0 := bxc z7 q_0
      replace q_1 := bxc z7 q_1
      replace q_f0 := bxf z7 q_f0
      replace q_f1 := bxf z7 q_f1
      replace r_0 := bxc z7 r_0
      replace r_1 := bxc z7 r_1
      replace r_f0 := bxf z7 r_f0
      replace r_f1 := bxf z7 r_f1
      replace he1 := fun S => (he1 S).below z7 (by omega)
      have he2 : ∀ S, Acc 48 (O.at rA w) w6.heap.size S w7.heap.size w7 (.slice (some ⟨w8.heap.size + 1, 0, none⟩) 0 0) [] := fun S => by rw [hw7]; exact Acc.empty (by omega) (by first | (simp; done) | (simp; omega))
      have raw7_b_0 := b_0
      have raw7_q_0 := q_0
      have raw7_q_1 := q_1
      have raw7_r_0 := r_0
      have raw7_r_1 := r_1
      rw [hw7, hw6] at raw7_b_0 raw7_q_0 raw7_q_1 raw7_r_0 raw7_r_1
      have ze2 := z7
      have o1 := (he1 w7.heap.size).own (B := w8.heap.size) (hi' := w8.heap.size + 1) (Nat.le_refl _) (by omega) (by omega)
      have o2 := (he2 w7.heap.size).own (B := w8.heap.size + 1) (hi' := w8.heap.size + 2) (by omega) (by omega) (by omega)
      have hDu : Duo 44 oT 48 (O.at rA w) w8.heap.size w7.heap.size w7 (.slice (some ⟨w8.heap.size, 0, none⟩) 0 0) (.slice (some ⟨w8.heap.size + 1, 0, none⟩) 0 0) ((pickTo K xs 0).map (fun a => lookT (look db a.1))) (pickTo K xs 0) := Duo.mono (hi := w8.heap.size + 2) (Duo.mk (mid := w8.heap.size + 1) o1 o2 (by omega) (by omega)) (Nat.le_refl _) (by omega)
      have hbT : Below w8.heap.size w8 w7 := ze1.trans (ze2.mono (by omega))
      clear o1 o2 he1 he2
      go_wp2_with fail
      rw [← hw6]
      rw [← hw7]
      clear hw7 hw6
      clear raw6_b_0 raw6_q_0 raw6_q_1 raw6_r_0 raw6_r_1 raw7_b_0 raw7_q_0 raw7_q_1 raw7_r_0 raw7_r_1
      go_loopw [8, 9, 10] (fun v u i wr => ∃ (j : Nat) (b2 : Option Addr) (n2 c2 : Nat) (b3 : Option Addr) (n3 c3 : Nat), j ≤ qn ∧ i = .int .i64 j ∧ v = .slice b2 n2 c2 ∧ u = .slice b3 n3 c3 ∧ Duo 44 oT 48 (O.at rA w) w8.heap.size wr.heap.size wr (.slice b2 n2 c2) (.slice b3 n3 c3) ((pickTo K xs j).map (fun a => lookT (look db a.1))) (pickTo K xs j) ∧ Below w8.heap.size w8 wr ∧ w8.heap.size ≤ wr.heap.size) (fun _ _ i _ => qn - (intOf i).toNat)
      case atStart => exact ⟨0, _, _, _, _, _, _, Nat.zero_le _, rfl, rfl, rfl, hDu, hbT, hbT.size⟩
      case round =>
        obtain ⟨j, b2, n2, c2, b3, n3, c3, hj, rfl, rfl, rfl, hduo, hlc, hls⟩ := hrel
        have hbr : Below w.heap.size w wr := (hb5).trans (hlc.mono (by omega))
        clear hDu hbT
        clear b_0 q_0 q_1 r_0 r_1 r_f0 r_f1
        have b_0 : wr.cell? ⟨w.heap.size, 0, none⟩ = some (.slice ub un uc) := (hlc.cell (p := ⟨w.heap.size, 0, none⟩) (by simp only []; omega)).trans v_b_0
        have q_0 : wr.cell? ⟨w.heap.size + 1, 0, none⟩ = some (.int .i64 vq) := (hlc.cell (p := ⟨w.heap.size + 1, 0, none⟩) (by simp only []; omega)).trans v_q_0
        have q_1 : wr.cell? ⟨w.heap.size + 1, 1, none⟩ = some (.slice qb qn qc) := (hlc.cell (p := ⟨w.heap.size + 1, 1, none⟩) (by simp only []; omega)).trans v_q_1
        have hpl := pickTo_len K xs j
        by_cases hlt : j < qn
        · obtain ⟨b1, o1, cs, a, rfl, hx, hr, hc⟩ := t1.at hlt
          obtain ⟨m1, vs⟩ := a
          obtain ⟨vb, vn, vc, rfl, hs, gv⟩ := rA_open hr
          have HRA := Lib.hid hr
          have HX := Lib.hid hx.out
          have hc1 := fun W (hW : Below w.heap.size w W) => HCK.out m1 W hW
          obtain ⟨t, ht⟩ : ∃ t, lookT (look db m1) = t := ⟨_, rfl⟩
          obtain ⟨so, hso⟩ : ∃ so, (look db m1).isSome = so := ⟨_, rfl⟩
          simp only [ht, hso] at hc1
          have HT9 := Lib.hid ht
          obtain ⟨ns, A, r1⟩ := t
          have HC1 := Lib.hid hc1
          have e_lt : b1 < w.heap.size := cell_lt (hc 0 _ rfl)
          have e_0 : wr.cell? ⟨b1, o1 + j * 2, none⟩ = some (.string m1) := (hbr.cell (p := ⟨b1, o1 + j * 2, none⟩) e_lt).trans (by have h9 := hc 0 _ rfl; rw [← Nat.add_assoc] at h9; exact h9)
          have e_1 : wr.cell? ⟨b1, o1 + j * 2 + 1, none⟩ = some (.slice vb vn vc) := (hbr.cell (p := ⟨b1, o1 + j * 2 + 1, none⟩) e_lt).trans (by have h9 := hc 1 _ rfl; rw [← Nat.add_assoc] at h9; exact h9)
          have hb1lt := e_lt
          have hbt := bit_test K j (by omega)
          obtain ⟨bb, hbb⟩ : ∃ bb, bitAt K j = bb := ⟨_, rfl⟩
          rw [hbb] at hbt
          have HBB := Lib.hid hbb
          clear hc hx hr gv hs hbb ht hso hc1
          cases bb with
          | false =>
            have HP : Hid (pickTo K xs (j + 1) = pickTo K xs j) := Lib.hid (pickTo_no HBB.out)
            have HD := Lib.hid hduo
            have HLC := Lib.hid hlc
            clear hduo
            go_wp2_with fail
            go_roundw
            case rel => exact ⟨j + 1, b2, n2, c2, b3, n3, c3, by omega, by go_num, rfl, rfl, by rw [HP.out]; exact HD.out, HLC.out, hls⟩
            case measure => simp [intOf]; omega
          | true =>
            have HP : Hid (pickTo K xs (j + 1) = pickTo K xs j ++ [(m1, vs)]) := Lib.hid (pickTo_yes HX.out HBB.out)
            have HP2 : Hid ((pickTo K xs (j + 1)).map (fun a => lookT (look db a.1)) = (pickTo K xs j).map (fun a => lookT (look db a.1)) ++ [(ns, A, r1)]) := Lib.hid (by rw [HP.out, List.map_append, ← HT9.out]; rfl)
            have hbd := (hbr).drew
            have hsz : wr.drew.heap.size = wr.heap.size := rfl
            have hbn : Below w.heap.size w (wr.alloc (.cells #[.string ⟨#[]⟩, .int .i64 0, .slice none 0 0] 44)).drew := ((hbr).alloc (by omega) _).drew
            have hsn : (wr.alloc (.cells #[.string ⟨#[]⟩, .int .i64 0, .slice none 0 0] 44)).drew.heap.size = wr.heap.size + 1 := by show (wr.alloc _).heap.size = _; simp
            have n_0 : (wr.alloc (.cells #[.string ⟨#[]⟩, .int .i64 0, .slice none 0 0] 44)).drew.cell? ⟨wr.heap.size, 0, none⟩ = some (.string ⟨#[]⟩) := box_cell (cs := #[.string ⟨#[]⟩, .int .i64 0, .slice none 0 0]) (T := 44) (i := 0) (Below.refl _ _).drew rfl
            have n_1 : (wr.alloc (.cells #[.string ⟨#[]⟩, .int .i64 0, .slice none 0 0] 44)).drew.cell? ⟨wr.heap.size, 1, none⟩ = some (.int .i64 0) := box_cell (cs := #[.string ⟨#[]⟩, .int .i64 0, .slice none 0 0]) (T := 44) (i := 1) (Below.refl _ _).drew rfl
            have n_2 : (wr.alloc (.cells #[.string ⟨#[]⟩, .int .i64 0, .slice none 0 0] 44)).drew.cell? ⟨wr.heap.size, 2, none⟩ = some (.slice none 0 0) := box_cell (cs := #[.string ⟨#[]⟩, .int .i64 0, .slice none 0 0]) (T := 44) (i := 2) (Below.refl _ _).drew rfl
            have f_0 : (wr.alloc (.cells #[.string ⟨#[]⟩, .int .i64 0, .slice none 0 0] 44)).drew.frozen? ⟨wr.heap.size, 0, none⟩ = false := box_frozen (cs := #[.string ⟨#[]⟩, .int .i64 0, .slice none 0 0]) (T := 44) (Below.refl _ _).drew
            have f_1 : (wr.alloc (.cells #[.string ⟨#[]⟩, .int .i64 0, .slice none 0 0] 44)).drew.frozen? ⟨wr.heap.size, 1, none⟩ = false := box_frozen (cs := #[.string ⟨#[]⟩, .int .i64 0, .slice none 0 0]) (T := 44) (Below.refl _ _).drew
            have f_2 : (wr.alloc (.cells #[.string ⟨#[]⟩, .int .i64 0, .slice none 0 0] 44)).drew.frozen? ⟨wr.heap.size, 2, none⟩ = false := box_frozen (cs := #[.string ⟨#[]⟩, .int .i64 0, .slice none 0 0]) (T := 44) (Below.refl _ _).drew
            have k_b_0 : (wr.alloc (.cells #[.string ⟨#[]⟩, .int .i64 0, .slice none 0 0] 44)).drew.cell? ⟨w.heap.size, 0, none⟩ = some (.slice ub un uc) := cell_box b_0
            have k_q_1 : (wr.alloc (.cells #[.string ⟨#[]⟩, .int .i64 0, .slice none 0 0] 44)).drew.cell? ⟨w.heap.size + 1, 1, none⟩ = some (.slice (some ⟨b1, o1, none⟩) qn qc) := cell_box q_1
            have k_e_0 : (wr.alloc (.cells #[.string ⟨#[]⟩, .int .i64 0, .slice none 0 0] 44)).drew.cell? ⟨b1, o1 + j * 2, none⟩ = some (.string m1) := cell_box e_0
            go_wp2_with fail
            go_region_held3 (fun W => W.cell? ⟨w.heap.size, 0, none⟩ = some (.slice ub un uc) ∧ W.cell? ⟨w.heap.size + 1, 1, none⟩ = some (.slice (some ⟨b1, o1, none⟩) qn qc) ∧ W.cell? ⟨b1, o1 + j * 2, none⟩ = some (.string m1)) (first | exact ⟨b_0, q_1, e_0⟩ | assumption | (go_split_ands; (first | exact ⟨cell_box (by assumption), cell_box (by assumption), cell_box (by assumption)⟩ | exact ⟨cell_set3 (by assumption) (by simp only []; omega), cell_set3 (by assumption) (by simp only []; omega), cell_set3 (by assumption) (by simp only []; omega)⟩))) (first | (go_at_call 15; (with_reducible refine (HC1.out _ hbd).mono ?_); rintro e w10 ⟨vb', vn', vc', rfl, ho10, z10⟩; have hS10 := (⟨(z10.cell (p := ⟨w.heap.size, 0, none⟩) (by simp only []; omega)).trans b_0, (z10.cell (p := ⟨w.heap.size + 1, 1, none⟩) (by simp only []; omega)).trans q_1, (z10.cell (p := ⟨b1, o1 + j * 2, none⟩) (by simp only []; omega)).trans e_0⟩ : (fun W => W.cell? ⟨w.heap.size, 0, none⟩ = some (.slice ub un uc) ∧ W.cell? ⟨w.heap.size + 1, 1, none⟩ = some (.slice (some ⟨b1, o1, none⟩) qn qc) ∧ W.cell? ⟨b1, o1 + j * 2, none⟩ = some (.string m1)) w10); have hz10 := z10.size) | (go_at_call 15; (with_reducible refine (HC1.out _ hbn).mono ?_); rintro e w10 ⟨vb', vn', vc', rfl, ho10, z10⟩; have hS10 := (⟨(z10.cell (p := ⟨w.heap.size, 0, none⟩) (by simp only []; omega)).trans k_b_0, (z10.cell (p := ⟨w.heap.size + 1, 1, none⟩) (by simp only []; omega)).trans k_q_1, (z10.cell (p := ⟨b1, o1 + j * 2, none⟩) (by simp only []; omega)).trans k_e_0⟩ : (fun W => W.cell? ⟨w.heap.size, 0, none⟩ = some (.slice ub un uc) ∧ W.cell? ⟨w.heap.size + 1, 1, none⟩ = some (.slice (some ⟨b1, o1, none⟩) qn qc) ∧ W.cell? ⟨b1, o1 + j * 2, none⟩ = some (.string m1)) w10); have hz10 := z10.size; replace n_0 := (z10.cell (p := ⟨wr.heap.size, 0, none⟩) (by simp only []; omega)).trans n_0; replace n_1 := (z10.cell (p := ⟨wr.heap.size, 1, none⟩) (by simp only []; omega)).trans n_1; replace n_2 := (z10.cell (p := ⟨wr.heap.size, 2, none⟩) (by simp only []; omega)).trans n_2; replace f_0 := (z10.frozen (p := ⟨wr.heap.size, 0, none⟩) (by simp only []; omega)).trans f_0; replace f_1 := (z10.frozen (p := ⟨wr.heap.size, 1, none⟩) (by simp only []; omega)).trans f_1; replace f_2 := (z10.frozen (p := ⟨wr.heap.size, 2, none⟩) (by simp only []; omega)).trans f_2))
            · obtain ⟨Wf, hW⟩ : ∃ W, W = w10.alloc (.cells #[.string ns, .int .i64 A, .slice vb' vn' vc'] 44) := ⟨_, rfl⟩
              have hsf : w10.heap.size + 1 ≤ Wf.heap.size := by rw [hW]; simp
              have hrf : Below wr.heap.size wr Wf := by rw [hW]; exact (on (Below.refl _ _).drew z10).alloc (by omega) _
              have hoT : Own oT wr.heap.size w10.heap.size Wf [.string ns, .int .i64 A, .slice vb' vn' vc'] (ns, A, r1) := by rw [hW]; exact ho10.below ((Below.refl w10.heap.size w10).alloc (Nat.le_refl _) _) (Nat.le_refl _)
              have t_0 : Wf.cell? ⟨w10.heap.size, 0, none⟩ = some (.string ns) := by rw [hW]; exact box_cell (i := 0) (Below.refl _ _) rfl
              have t_1 : Wf.cell? ⟨w10.heap.size, 1, none⟩ = some (.int .i64 A) := by rw [hW]; exact box_cell (i := 1) (Below.refl _ _) rfl
              have t_2 : Wf.cell? ⟨w10.heap.size, 2, none⟩ = some (.slice vb' vn' vc') := by rw [hW]; exact box_cell (i := 2) (Below.refl _ _) rfl
              have x_1 : Wf.cell? ⟨w.heap.size + 1, 1, none⟩ = some (.slice (some ⟨b1, o1, none⟩) qn qc) := by rw [hW]; exact cell_box hS10.2.1
              rw [← hW]
              clear hS10 n_0 n_1 n_2 f_0 f_1 f_2 k_b_0 k_q_1 k_e_0 hW z10 hbn hbd ho10
              have hsr := hrf.size
              have hD := (hduo.below hrf (Nat.le_refl _))
              obtain ⟨a2, n2, p2, w11, hr11, hD11, hb11, hs11⟩ := Duo.one Tryz.underlying24 infoT rfl (by decide) (by decide) rfl 24 [.string ns, .int .i64 A, .slice vb' vn' vc'] (ns, A, r1) hD hoT (by intro u hu; simp at hu; rcases hu with rfl | rfl | rfl <;> rfl) (by omega) (by omega) (by omega) (by simp; omega) rfl
              have hOA : Own (O.at rA w) w11.heap.size w11.heap.size w11 [.string m1, .slice vb vn vc] (m1, vs) := ⟨[], ⟨HRA.out, rfl⟩, by simp, by simp⟩
              obtain ⟨a3, n3, p3, w12, hr12, hD12, hb12, hs12⟩ := Duo.one Tryz.underlying27 infoA rfl (by decide) (by decide) rfl 27 [.string m1, .slice vb vn vc] (m1, vs) hD11.swap hOA (by intro u hu; simp at hu; rcases hu with rfl | rfl <;> rfl) (Nat.le_refl _) (by omega) (Nat.le_refl _) (by omega) rfl
              have x_11 : w11.cell? ⟨w.heap.size + 1, 1, none⟩ = some (.slice (some ⟨b1, o1, none⟩) qn qc) := (hb11.cell (p := ⟨w.heap.size + 1, 1, none⟩) (by simp only []; omega)).trans x_1
              have y_0 : w11.cell? ⟨b1, o1 + j * 2, none⟩ = some (.string m1) := (hb11.cell (p := ⟨b1, o1 + j * 2, none⟩) (by simp only []; omega)).trans ((hrf.cell (p := ⟨b1, o1 + j * 2, none⟩) (by simp only []; omega)).trans e_0)
              have y_1 : w11.cell? ⟨b1, o1 + j * 2 + 1, none⟩ = some (.slice vb vn vc) := (hb11.cell (p := ⟨b1, o1 + j * 2 + 1, none⟩) (by simp only []; omega)).trans ((hrf.cell (p := ⟨b1, o1 + j * 2 + 1, none⟩) (by simp only []; omega)).trans e_1)
              have HDN := Lib.hid hD12.swap
              have HBN : Hid (Below w8.heap.size w8 w12) := Lib.hid (((hlc.trans (hrf.mono (by omega))).trans (hb11.mono (by omega))).trans (hb12.mono (by omega)))
              clear hduo hD hD11 hD12 hOA hoT hrf
              go_wp2_with (first | (at_builtin; refine wpList_app_run hr11 rfl rfl rfl rfl rfl ?_) | (at_builtin; refine wpList_app_run hr12 rfl rfl rfl rfl rfl ?_))
              go_roundw
              case rel => exact ⟨j + 1, a2, n2, p2, a3, n3, p3, by omega, by go_num, rfl, rfl, by rw [HP2.out, HP.out]; exact HDN.out, HBN.out, by omega⟩
              case measure => simp [intOf]; omega
            · obtain ⟨Wf, hW⟩ : ∃ W, W = ((w10.setCell ⟨wr.heap.size, 0, none⟩ (.string ns)).setCell ⟨wr.heap.size, 1, none⟩ (.int .i64 A)).setCell ⟨wr.heap.size, 2, none⟩ (.slice vb' vn' vc') := ⟨_, rfl⟩
              have hsf : w10.heap.size ≤ Wf.heap.size := by rw [hW]; simp [World.setCell]
              have hrf : Below wr.heap.size wr Wf := by
                rw [hW]
                exact (((on (((Below.refl _ _).alloc (Nat.le_refl _) _).drew) z10).setCell (by simp only []; omega) _).setCell (by simp only []; omega) _).setCell (by simp only []; omega) _
              have hoT : Own oT (wr.heap.size + 1) w10.heap.size Wf [.string ns, .int .i64 A, .slice vb' vn' vc'] (ns, A, r1) := by
                rw [hW]
                refine Own.setOut (w := (w10.setCell ⟨wr.heap.size, 0, none⟩ (.string ns)).setCell ⟨wr.heap.size, 1, none⟩ (.int .i64 A)) ?_ rfl (by simp only []; omega)
                refine Own.setOut (w := w10.setCell ⟨wr.heap.size, 0, none⟩ (.string ns)) ?_ rfl (by simp only []; omega)
                refine Own.setOut (w := w10) ?_ rfl (by simp only []; omega)
                exact hsn ▸ ho10
              have t_0 : Wf.cell? ⟨wr.heap.size, 0, none⟩ = some (.string ns) := by rw [hW]; simp [n_0, n_1, n_2, go_sem]
              have t_1 : Wf.cell? ⟨wr.heap.size, 1, none⟩ = some (.int .i64 A) := by rw [hW]; simp [n_0, n_1, n_2, go_sem]
              have t_2 : Wf.cell? ⟨wr.heap.size, 2, none⟩ = some (.slice vb' vn' vc') := by rw [hW]; simp [n_0, n_1, n_2, go_sem]
              have x_1 : Wf.cell? ⟨w.heap.size + 1, 1, none⟩ = some (.slice (some ⟨b1, o1, none⟩) qn qc) := by rw [hW]; exact cell_set3 hS10.2.1 (by simp only []; omega)
              rw [← hW]
              clear hS10 n_0 n_1 n_2 f_0 f_1 f_2 k_b_0 k_q_1 k_e_0 hW z10 hbn hbd ho10
              have hsr := hrf.size
              have hD := (hduo.below hrf (Nat.le_refl _))
              obtain ⟨a2, n2, p2, w11, hr11, hD11, hb11, hs11⟩ := Duo.one Tryz.underlying24 infoT rfl (by decide) (by decide) rfl 24 [.string ns, .int .i64 A, .slice vb' vn' vc'] (ns, A, r1) hD hoT (by intro u hu; simp at hu; rcases hu with rfl | rfl | rfl <;> rfl) (by omega) (by omega) (by omega) (by simp; omega) rfl
              have hOA : Own (O.at rA w) w11.heap.size w11.heap.size w11 [.string m1, .slice vb vn vc] (m1, vs) := ⟨[], ⟨HRA.out, rfl⟩, by simp, by simp⟩
              obtain ⟨a3, n3, p3, w12, hr12, hD12, hb12, hs12⟩ := Duo.one Tryz.underlying27 infoA rfl (by decide) (by decide) rfl 27 [.string m1, .slice vb vn vc] (m1, vs) hD11.swap hOA (by intro u hu; simp at hu; rcases hu with rfl | rfl <;> rfl) (Nat.le_refl _) (by omega) (Nat.le_refl _) (by omega) rfl
              have x_11 : w11.cell? ⟨w.heap.size + 1, 1, none⟩ = some (.slice (some ⟨b1, o1, none⟩) qn qc) := (hb11.cell (p := ⟨w.heap.size + 1, 1, none⟩) (by simp only []; omega)).trans x_1
              have y_0 : w11.cell? ⟨b1, o1 + j * 2, none⟩ = some (.string m1) := (hb11.cell (p := ⟨b1, o1 + j * 2, none⟩) (by simp only []; omega)).trans ((hrf.cell (p := ⟨b1, o1 + j * 2, none⟩) (by simp only []; omega)).trans e_0)
              have y_1 : w11.cell? ⟨b1, o1 + j * 2 + 1, none⟩ = some (.slice vb vn vc) := (hb11.cell (p := ⟨b1, o1 + j * 2 + 1, none⟩) (by simp only []; omega)).trans ((hrf.cell (p := ⟨b1, o1 + j * 2 + 1, none⟩) (by simp only []; omega)).trans e_1)
              have HDN := Lib.hid hD12.swap
              have HBN : Hid (Below w8.heap.size w8 w12) := Lib.hid (((hlc.trans (hrf.mono (by omega))).trans (hb11.mono (by omega))).trans (hb12.mono (by omega)))
              clear hduo hD hD11 hD12 hOA hoT hrf
              go_wp2_with (first | (at_builtin; refine wpList_app_run hr11 rfl rfl rfl rfl rfl ?_) | (at_builtin; refine wpList_app_run hr12 rfl rfl rfl rfl rfl ?_))
              go_roundw
              case rel => exact ⟨j + 1, a2, n2, p2, a3, n3, p3, by omega, by go_num, rfl, rfl, by rw [HP2.out, HP.out]; exact HDN.out, HBN.out, by omega⟩
              case measure => simp [intOf]; omega
        · obtain rfl : qn = j := by omega
          have HZ : Hid (pickTo K xs qn = selA (vq, xs) K) := Lib.hid (by rw [selA]; congr 1; exact hl.symm)
          have HPM : Hid (∀ a ∈ pickTo K xs qn, a ∈ xs) := Lib.hid (fun a ha => by obtain ⟨i, _, _, h3⟩ := pickTo_mem.1 ha; exact List.mem_of_getElem? h3)
          obtain ⟨zs, hzs⟩ : ∃ zs, pickTo K xs qn = zs := ⟨_, rfl⟩
          rw [hzs] at hduo HZ HPM hpl
          clear hzs t1 HCK
          go_wp2_with fail
          refine (HMV.out _ hbr).mono ?_
          rintro e w13 ⟨u13, rfl, o13, z13⟩
          obtain ⟨vb, vn, vc, rfl⟩ := oI_form1 o13
          have hm13 := z13.size
          have hl13 := hlc.trans (z13.mono (by omega))
          replace hduo := hduo.below z13 (Nat.le_refl _)
          have s8 := z13.size
          have hb8 := on hbr z13
          replace b_0 := bxc z13 b_0
          replace q_0 := bxc z13 q_0
          replace q_1 := bxc z13 q_1
          have HO13 := o13
          obtain ⟨w9, hw9⟩ : ∃ W, W = w13.alloc (.cells #[] 3) := ⟨_, rfl⟩
          have z9 : Below w13.heap.size w13 w9 := by rw [hw9]; exact (Below.refl _ _).alloc (Nat.le_refl _) _
          have s9 : w9.heap.size = w13.heap.size + 1 := by rw [hw9]; simp
          have hb9 := on hb8 z9
          replace b_0 := bxc z9 b_0
          replace q_0 := bxc z9 q_0
          replace q_1 := bxc z9 q_1
          replace o13 := o13.below z9 (by omega)
          have he3 : ∀ S, Acc 3 O.int w13.heap.size S w9.heap.size w9 (.slice (some ⟨w13.heap.size, 0, none⟩) 0 0) [] := fun S => by rw [hw9]; exact Acc.empty (by omega) (by first | (simp; done) | (simp; omega))
          have ze3 := z9
          replace hduo := hduo.below ze3 (by omega)
          have hl14 := hl13.trans (ze3.mono (by omega))
          have hsT : Sl rT w9 b2 n2 (zs.map (fun a => lookT (look db a.1))) := rS_sl (hduo.fst.rd reads_Tl)
          have hsA : Sl rA w9 b3 n3 zs := by
            obtain ⟨fp, h1, _⟩ := hduo.snd
            exact rS_sl (at_reads h1 hb9)
          have hsV := rI_ints (o13.rd reads_I)
          have hsR : Ints w9 (some ⟨w13.heap.size, 0, none⟩) 0 [] := ⟨rfl, by omega, fun i hi => by omega, by intro x hx; cases hx⟩
          have HWA := Lib.hid (walk_any b2 b3 vb n2 c2 n3 c3 vn vc (zs.map (fun a => lookT (look db a.1))) zs mv (by simp) (fun i t a h1 h2 => by
            rw [List.getElem?_map, h2] at h1
            simp at h1
            subst h1
            exact HFIT.out a (HPM.out a (List.mem_of_getElem? h2))) hmv4 mv.length (some ⟨w13.heap.size, 0, none⟩) 0 0 [] w9 hsT hsA hsV hsR (by simp))
          have HEE : Hid (E = (mv, walkE (zipRA (zs.map (fun a => lookT (look db a.1))) zs) mv mv.length [])) := Lib.hid (by rw [HEK.out, HMVK.out, HZ.out]; rfl)
          obtain ⟨R, hR⟩ : ∃ R, walkE (zipRA (zs.map (fun a => lookT (look db a.1))) zs) mv mv.length [] = R := ⟨_, rfl⟩
          rw [hR] at HEE HWA
          clear hsT hsA hsV hsR hduo hR he3
          go_wp2_with fail
          rw [← hw9]
          clear hw9
          refine HWA.out.mono ?_
          rintro e w15 ⟨g, n5, c5, rfl, o15, z15⟩
          have hl15 := hl14.trans (z15.mono (by omega))
          clear q_0 q_1 b_0
          have s10 := z15.size
          have hb10 := on hb9 z15
          replace o13 := o13.below z15 (by omega)
          have r_0 : w15.cell? ⟨w.heap.size + 1 + 1, 0, none⟩ = some (.slice none 0 0) := (hl15.cell (p := ⟨w.heap.size + 1 + 1, 0, none⟩) (by simp only []; omega)).trans v_r_0
          have r_1 : w15.cell? ⟨w.heap.size + 1 + 1, 1, none⟩ = some (.slice none 0 0) := (hl15.cell (p := ⟨w.heap.size + 1 + 1, 1, none⟩) (by simp only []; omega)).trans v_r_1
          have r_f0 : w15.frozen? ⟨w.heap.size + 1 + 1, 0, none⟩ = false := (hl15.frozen (p := ⟨w.heap.size + 1 + 1, 0, none⟩) (by simp only []; omega)).trans v_r_f0
          have r_f1 : w15.frozen? ⟨w.heap.size + 1 + 1, 1, none⟩ = false := (hl15.frozen (p := ⟨w.heap.size + 1 + 1, 1, none⟩) (by simp only []; omega)).trans v_r_f1
          have HOA : Hid (Own oAn w8.heap.size w15.heap.size w15 [.slice vb vn vc, .slice (some ⟨g, 0, none⟩) n5 c5] E) := Lib.hid (by
            rw [HEE.out]
            exact oAn_mk (x := (mv, R)) o13 o15 (by omega) (by omega) (by omega) (by omega) (by omega))
          clear o13 o15 HO13
          go_wp2_with fail
          refine bodyPost_ret (v := .tuple #[.agg #[.slice vb vn vc, .slice (some ⟨g, 0, none⟩) n5 c5], .bool true]) (by simp [results, Tryz.results7, go_sem, r_0, r_1, r_f0, r_f1]) rfl ⟨_, rfl, ?_, ?_⟩
          · refine Own.mono (lo := w8.heap.size) (hi := w15.heap.size) ?_ (by omega) (by simp [World.setCell])
            repeat (refine Own.setOut ?_ rfl (by simp only []; omega))
            exact HOA.out
          · repeat (refine Below.setCell ?_ (by simp only []; omega) _)
            exact hb10

end Go.Proofs.YtpgfkjcekhifiaaGreat

namespace Go.Proofs.YtpgfkjcekhifiaaGreat

open Go.RowKit

set_option linter.unusedVariables false

set_option linter.unusedSimpArgs false

def pickE (vars row : List Int) (v : Int) (m : Nat) : List Int := (List.range m).filterMap (fun e => if vars.getD e 0 = v then some (row.getD e 0) else none)

def pickR (vars row av : List Int) : List Int := av.flatMap (fun v => pickE vars row v vars.length)

theorem pickE_zero (vars row : List Int) (v : Int) : pickE vars row v 0 = [] := rfl

theorem pickE_yes {vars row : List Int} {v : Int} {m : Nat} (h : vars.getD m 0 = v) : pickE vars row v (m + 1) = pickE vars row v m ++ [row.getD m 0] := by
  unfold pickE
  rw [List.range_succ, List.filterMap_append]
  congr 1
  simp only [List.filterMap_cons, List.filterMap_nil, if_pos h]

theorem pickE_no {vars row : List Int} {v : Int} {m : Nat} (h : vars.getD m 0 ≠ v) : pickE vars row v (m + 1) = pickE vars row v m := by
  unfold pickE
  rw [List.range_succ, List.filterMap_append]
  simp only [List.filterMap_cons, List.filterMap_nil, if_neg h, List.append_nil]

theorem pickE_len (vars row : List Int) (v : Int) (m : Nat) : (pickE vars row v m).length ≤ m := by
  have := List.length_filterMap_le (fun e => if vars.getD e 0 = v then some (row.getD e 0) else none) (List.range m)
  rw [List.length_range] at this
  exact this

theorem pickR_at {vars row av : List Int} {k : Nat} (hk : k < av.length) : pickR vars row (av.take (k + 1)) = pickR vars row (av.take k) ++ pickE vars row (av.getD k 0) vars.length := by
  unfold pickR
  rw [List.take_add_one, List.getElem?_eq_getElem hk, List.flatMap_append, List.getD_eq_getElem?_getD, List.getElem?_eq_getElem hk]
  simp

theorem pickR_len (vars row : List Int) : ∀ av : List Int, (pickR vars row av).length ≤ av.length * vars.length
  | [] => by simp [pickR]
  | v :: t => by
    have h1 := pickR_len vars row t
    have h2 := pickE_len vars row v vars.length
    have e : pickR vars row (v :: t) = pickE vars row v vars.length ++ pickR vars row t := by simp [pickR]
    rw [e, List.length_append, List.length_cons, Nat.succ_mul]
    omega

theorem pickE_one {vars row : List Int} {v : Int} (hn : vars.Nodup) {j : Nat} (hj : j < vars.length) (hv : vars.getD j 0 = v) : ∀ {m : Nat}, m ≤ vars.length → pickE vars row v m = if j < m then [row.getD j 0] else []
  | 0, _ => by rw [if_neg (by omega)]; rfl
  | m + 1, hm => by
    have ih := pickE_one (row := row) hn hj hv (m := m) (by omega)
    by_cases e : j = m
    · subst e
      rw [pickE_yes hv, ih, if_neg (by omega), if_pos (by omega)]
      rfl
    · have hne : vars.getD m 0 ≠ v := fun h9 => e (getD_inj hn hj (by omega) (hv.trans h9.symm))
      rw [pickE_no hne, ih]
      by_cases h9 : j < m
      · rw [if_pos h9, if_pos (by omega)]
      · rw [if_neg h9, if_neg (by omega)]

theorem pickR_row {vars row av r : List Int} (hn : vars.Nodup) (hl : row.length = vars.length) (hr : r.length = av.length) (hm : ∀ v ∈ av, v ∈ vars) (ha : agree av vars row r = true) : pickR vars row av = r := by
  have hag := agree_iff.1 ha
  have key : ∀ k, k ≤ av.length → pickR vars row (av.take k) = r.take k := by
    intro k
    induction k with
    | zero => intro _; simp [pickR]
    | succ k ih =>
      intro hk
      have hka : k < av.length := by omega
      obtain ⟨j, hj, hv⟩ := mem_getD (hm _ (getD_mem hka))
      rw [pickR_at hka, ih (by omega), pickE_one hn hj hv (Nat.le_refl _), if_pos hj, hag k hka j (by omega) hv]
      rw [List.take_add_one, List.getElem?_eq_getElem (by omega), List.getD_eq_getElem?_getD, List.getElem?_eq_getElem (by omega)]
      rfl
  have := key av.length (Nat.le_refl _)
  rw [List.take_of_length_le (Nat.le_refl _), List.take_of_length_le (by omega)] at this
  exact this

theorem answer_row {db : DDb} {q : DQ} {n K : Nat} (h : queryFor db q = true) (hq : QOk q n) {z : List Int} (hz : z ∈ (evalK db q K).2) {a : DA} (ha : a ∈ selA q K) : pickR (varsOf q K) z a.2 ∈ (lookT (look db a.1)).2.2 := by
  have hz2 : z ∈ walkE (evalRA db q K) (varsOf q K) (varsOf q K).length [] := hz
  obtain ⟨s, hs, hl, _, hf⟩ := walkE_mem.1 hz2
  rw [List.nil_append] at hs
  subst hs
  have hp : ((lookT (look db a.1)).2.2, a.2) ∈ evalRA db q K := by
    rw [evalRA, zipRA_map]
    exact List.mem_map.2 ⟨a, ha, rfl⟩
  obtain ⟨r, hr, hag⟩ := fitsAll_iff.1 hf _ hp
  have hF := evalRA_fine h hq _ hp
  have e := pickR_row (vars := varsOf q K) (row := z) (av := a.2) (r := r) (bitsTo_nodup 4).1 hl (hF.row r hr).1 (fun v hv => (varsOf_mem (db := db) hq v).2 ⟨(hF.rng v hv).1, (hF.rng v hv).2, _, hp, hv⟩) hag
  rw [e]
  exact hr

theorem cols_bits : ∀ m : Fin 16, colsB 4 (bitsTo m.val 4) = true := by decide

theorem answer_valid {db : DDb} {q : DQ} {n K : Nat} (hq : QOk q n) : validAn (evalK db q K) = true := by
  have hb := hq.bits_lt K
  have hp : 2 ^ n ≤ 2 ^ 4 := Nat.pow_le_pow_right (by omega) hq.le
  unfold validAn
  have h1 : colsB 4 (evalK db q K).1 = true := cols_bits ⟨bitsOf q K, by omega⟩
  have h3 : ascB (evalK db q K).2 = true := ascB_asc.2 walkE_asc
  have h2 : rowsB ((evalK db q K).1.length : Int) (evalK db q K).2 = true := by
    refine List.all_eq_true.2 (fun r hr => ?_)
    obtain ⟨s, hs, hl, hx, _⟩ := walkE_mem.1 (show r ∈ walkE (evalRA db q K) (varsOf q K) (varsOf q K).length [] from hr)
    rw [List.nil_append] at hs
    subst hs
    unfold rowB
    rw [Bool.and_eq_true, decide_eq_true_eq]
    refine ⟨List.all_eq_true.2 (fun v hv => ?_), ?_⟩
    · have := hx v hv
      simp only [betw, Bool.and_eq_true, decide_eq_true_eq]
      exact this
    · show (r.length : Int) = ((varsOf q K).length : Int)
      omega
  rw [h1, h2, h3]
  rfl

theorem atoms_sel {q : DQ} {K i : Nat} {a : DA} (h : q.2[i]? = some a) (hb : bitAt K i = true) : a ∈ selA q K :=
  pickTo_mem.2 ⟨i, (List.getElem?_eq_some_iff.1 h).1, hb, h⟩

end Go.Proofs.YtpgfkjcekhifiaaGreat
