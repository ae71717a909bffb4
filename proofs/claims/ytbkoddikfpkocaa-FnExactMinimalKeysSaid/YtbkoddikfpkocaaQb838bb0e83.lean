/- Texts joined for one claim: CloI2, CloS, CloA, Key, KeyS, MinI, MinJ, MinS, MinW. -/
import Derived.Test.YtbkoddikfpkocaaQ638c0d89bc
import Derived.Deep.RegionHeld3
import Derived.Deep.LoopGhost

/- Contracts: closures of columns, by the program (2). -/
namespace Go.Proofs.Ytbkoddikfpkocaa
open Go.RowKit
set_option linter.unusedVariables false
set_option linter.unusedSimpArgs false
set_option synthInstance.maxSize 2000
set_option synthInstance.maxHeartbeats 400000

set_option maxRecDepth 100000 in
set_option maxHeartbeats 4000000 in
theorem closure_impl (a : Option Addr) (n cap : Nat) (ds : List DDp) (name : ByteArray) (b : Option Addr) (cn cc : Nat) (cols : List Int) (w : World) (h : Sl rDp w a n ds) (h' : Ints w b cn cols) (hbf : ∀ f ∈ ds, f.2.1.length ≤ 1048576) :
    Calls Try.prog 54 #[.slice a n cap, .string name, .slice b cn cc] w fun e w' => ∃ u, e = .returned u ∧ Own oI w.heap.size w'.heap.size w' [u] (closure ds name cols) ∧ Below w.heap.size w w' := by
  have hl := h.len
  have hn := h.small
  have HBF := Lib.hid hbf
  obtain ⟨M, hM⟩ : ∃ M, M = maskIn cols := ⟨_, rfl⟩
  have hM8 : M < 8 := by rw [hM]; exact maskIn_lt cols
  have HMb := Lib.hid (show ∀ j : Nat, j < 3 → bitAt M j = has cols (j : Int) by rw [hM]; exact maskIn_bit cols)
  have HV : Hid (closure ds name cols = bitsTo (clo name ds M) 3) := Lib.hid (by rw [closure, hM])
  clear hM hbf
  have hb0 : Below w.heap.size w w := Below.refl _ _
  go_enter Try.func54, Try.ntmps54
  go_wp2_with fail
  obtain ⟨w1, hw1⟩ : ∃ W, W = w.alloc (.cells #[] 3) := ⟨_, rfl⟩
  have z1 : Below w.heap.size w w1 := by rw [hw1]; exact (Below.refl _ _).alloc (Nat.le_refl _) _
  have s1 : w1.heap.size = w.heap.size + 1 := by rw [hw1]; simp
  have hb1 := on hb0 z1
  have he : ∀ S, Acc 3 O.int w.heap.size S w1.heap.size w1 (.slice (some ⟨w.heap.size, 0, none⟩) 0 0) [] := fun S => by rw [hw1]; exact Acc.empty (by omega) (by first | (simp; done) | (simp; omega))
  go_wp2_with fail
  rw [← hw1]
  clear hw1
  go_loopw [7, 8] (fun v k wr => ∃ j : Nat, j ≤ 3 ∧ k = .int .i64 j ∧ Acc 3 O.int w.heap.size w1.heap.size wr.heap.size wr v (bitsTo M j) ∧ Turn w.heap.size (w.heap.size + 1) w1 wr) (fun _ k _ => 3 - (intOf k).toNat)
  case atStart => exact ⟨0, Nat.zero_le _, rfl, (he _).wide (Nat.le_refl _) (by omega), turn_refl _ _ _⟩
  case round =>
    obtain ⟨j, hj, rfl, hacc, hdr⟩ := hrel
    have hlc := hdr
    obtain ⟨wo, rfl⟩ : ∃ W, W = wr := ⟨_, rfl⟩
    have hbx := (hb1).trans ((hdr.below (by omega)).mono (by omega))
    have sx := hdr.size
    have hbl := bitsTo_len M j
    by_cases hlt : j < 3
    · have hcc := contains_any b cn cc cols (j : Int) wo (h'.below hbx)
      rw [← HMb.out j hlt] at hcc
      obtain ⟨t, ht⟩ : ∃ t, t = bitAt M j := ⟨_, rfl⟩
      rw [← ht] at hcc
      have HC := Lib.hid hcc
      clear hcc
      cases t with
      | true =>
        have HB := Lib.hid (bitsTo_yes ht.symm)
        clear ht h h' hl
        go_wp2_with (first
          | (go_at_call 124; refine (HC.out).mono ?_; rintro e w' ⟨rfl, rfl⟩)
          | (at_builtin; refine wpList_accI _ _ _ _ _ hacc hlc rfl (by omega) (Nat.le_refl _) ⟨by omega, by omega⟩ (by omega) rfl rfl rfl rfl rfl ?_; intro v' w1 hacc' ht' hsz'))
        rw [← HB.out] at hacc'
        go_roundw
        case rel => exact ⟨j + 1, by omega, by go_num, hacc', ht'⟩
        case measure => simp [intOf]; omega
      | false =>
        rw [← bitsTo_no ht.symm] at hacc
        have HO := Lib.hid hacc
        clear ht h h' hl hacc
        go_wp2_with (go_at_call 124; refine (HC.out).mono ?_; rintro e w' ⟨rfl, rfl⟩)
        go_roundw
        case rel => exact ⟨j + 1, by omega, by go_num, HO.out, hlc⟩
        case measure => simp [intOf]; omega
    · have hj3 : j = 3 := by omega
      rw [hj3] at hacc
      have hgot := got_bits hM8
      obtain ⟨g0, hg0⟩ : ∃ g, g = bitsTo M 3 := ⟨_, rfl⟩
      rw [← hg0] at hacc hgot
      have HG := Lib.hid hgot
      have HA := Lib.hid hacc
      clear hacc hgot hg0 hbl HMb h' hj3
      go_wp2_with fail
      go_loopw [7, 9] (fun v k wr => ∃ (m : Nat) (g : List Int) (again : Bool), Hid (Got g m) ∧ k = .bool again ∧ Hid (closure ds name cols = bitsTo (clo name ds m) 3) ∧ Hid (again = false → passM name ds m = m) ∧ Acc 3 O.int w.heap.size w1.heap.size wr.heap.size wr v g ∧ Turn w.heap.size (w.heap.size + 1) w1 wr) (fun v k _ => (3 - lenOf v) * 2 + flagOf k)
      case atStart => exact ⟨M, g0, true, HG, rfl, HV, Lib.hid (fun h => by cases h), HA.out, hlc⟩
      case round =>
        obtain ⟨m, g, again, hG, rfl, hE, hst, hacc, hdr⟩ := hrel
        have hld := hdr
        obtain ⟨wi, rfl⟩ : ∃ W, W = wr := ⟨_, rfl⟩
        clear HA HG HV
        have hbz := (hb1).trans ((hdr.below (by omega)).mono (by omega))
        have sz := hdr.size
        obtain ⟨va, vcap, rfl⟩ := hacc.form
        have hgl := hG.out.len
        cases again with
        | false =>
          have HR : Hid (closure ds name cols = bitsTo m 3) := Lib.hid (by rw [hE.out, clo_stop (hst.out rfl)])
          have HO := Lib.hid (hacc.own (B := w.heap.size) (by omega) (by omega) (Nat.le_refl _))
          have hszb := (hbz).size
          clear hacc hst hE h hl
          go_wp2_with fail
          refine (sortI_any _ _ _ _ _ HO.out (by omega) hszb).mono ?_
          rintro e wE ⟨rfl, o3, zE⟩
          have sE := zE.size
          go_wp2_with fail
          go_ret
          exact ⟨_, rfl, by rw [HR.out, ← hG.out.sorted (by unfold sortL; exact List.mergeSort_perm _ _) (sortL_pair _)]; exact o3.mono (Nat.le_refl _) (by omega), (hbz).trans zE⟩
        | true =>
          have HP : Hid (passM name ds m = passM name (ds.drop 0) m) := rfl
          go_wp2_with fail
          go_loopw [7, 9, 28] (fun v k i wr => ∃ (j m' : Nat) (g' : List Int) (again : Bool), j ≤ n ∧ i = .int .i64 j ∧ Hid (Got g' m') ∧ k = .bool again ∧ Hid (passM name ds m = passM name (ds.drop j) m') ∧ Hid (again = false → m' = m ∧ g'.length = g.length) ∧ Hid (again = true → g.length < g'.length) ∧ Acc 3 O.int w.heap.size w1.heap.size wr.heap.size wr v g' ∧ Turn w.heap.size (w.heap.size + 1) w1 wr) (fun _ _ i _ => n - (intOf i).toNat)
          case atStart => exact ⟨0, m, g, false, Nat.zero_le _, rfl, hG, rfl, HP, Lib.hid (fun _ => ⟨rfl, rfl⟩), Lib.hid (fun h => by cases h), hacc, hld⟩
          case round =>
            obtain ⟨i, m', g', again, hi, rfl, hG', rfl, hF, hno, hyes, hacc', hdr⟩ := hrel
            have hle := hdr
            clear HP hacc
            have hby := (hb1).trans ((hdr.below (by omega)).mono (by omega))
            have sy := hdr.size
            obtain ⟨va', vcap', rfl⟩ := hacc'.form
            have hgl' := hG'.out.len
            by_cases hlti : i < n
            · obtain ⟨b1, o1, cs, f, rfl, hx, hr, hc⟩ := h.at hlti
              obtain ⟨m1, fr, to⟩ := f
              obtain ⟨fb, fn, fc, rfl, hs0, gf, hto⟩ := rDp_open hr
              simp only at hs0 gf hto
              have i0 := rI_ints gf
              obtain ⟨hfc1, hfc2⟩ := rS_cap gf
              have hfl := i0.len
              have hbfl : fr.length ≤ 1048576 := HBF.out _ (List.mem_of_getElem? hx.out)
              have e_lt : b1 < w.heap.size := cell_lt (hc 0 _ rfl)
              have e_0 : wr.cell? ⟨b1, o1 + i * 3, none⟩ = some (.string m1) := (hby.cell (p := ⟨b1, o1 + i * 3, none⟩) e_lt).trans (by have h9 := hc 0 _ rfl; rw [← Nat.add_assoc] at h9; exact h9)
              have e_1 : wr.cell? ⟨b1, o1 + i * 3 + 1, none⟩ = some (.slice fb fn fc) := (hby.cell (p := ⟨b1, o1 + i * 3 + 1, none⟩) e_lt).trans (by have h9 := hc 1 _ rfl; rw [← Nat.add_assoc] at h9; exact h9)
              have e_2 : wr.cell? ⟨b1, o1 + i * 3 + 2, none⟩ = some (.int .i64 to) := (hby.cell (p := ⟨b1, o1 + i * 3 + 2, none⟩) e_lt).trans (by have h9 := hc 2 _ rfl; rw [← Nat.add_assoc] at h9; exact h9)
              have HS := Lib.hid (hF.out.trans (passM_at hx.out))
              clear hc hx hr hs0 hF hl
              obtain ⟨w2, hw2⟩ : ∃ W, W = wr.alloc (.cells #[.string m1, .slice fb fn fc, .int .i64 to] 125) := ⟨_, rfl⟩
              have z2 : Below wr.heap.size wr w2 := by rw [hw2]; exact (Below.refl _ _).alloc (Nat.le_refl _) _
              have s2 : w2.heap.size = wr.heap.size + 1 := by rw [hw2]; simp
              have hb2 := on hby z2
              have old2_e_0 := e_0
              have old2_e_1 := e_1
              have old2_e_2 := e_2
              replace e_0 := (z2.cell (p := ⟨b1, o1 + i * 3, none⟩) (by simp only []; omega)).trans e_0
              replace e_1 := (z2.cell (p := ⟨b1, o1 + i * 3 + 1, none⟩) (by simp only []; omega)).trans e_1
              replace e_2 := (z2.cell (p := ⟨b1, o1 + i * 3 + 2, none⟩) (by simp only []; omega)).trans e_2
              replace hacc' := hacc'.below z2 (by omega)
              replace hle := hle.trans (turn_below z2 (Nat.le_refl _))
              have f_0 : w2.cell? ⟨wr.heap.size, 0, none⟩ = some (.string m1) := by rw [hw2]; exact box_cell (Below.refl _ _) rfl
              have f_1 : w2.cell? ⟨wr.heap.size, 1, none⟩ = some (.slice fb fn fc) := by rw [hw2]; exact box_cell (Below.refl _ _) rfl
              have f_2 : w2.cell? ⟨wr.heap.size, 2, none⟩ = some (.int .i64 to) := by rw [hw2]; exact box_cell (Below.refl _ _) rfl
              have raw2_e_0 := e_0
              have raw2_e_1 := e_1
              have raw2_e_2 := e_2
              have raw2_f_0 := f_0
              have raw2_f_1 := f_1
              have raw2_f_2 := f_2
              rw [hw2] at raw2_e_0 raw2_e_1 raw2_e_2 raw2_f_0 raw2_f_1 raw2_f_2
              have hic := fun W => isColumn_any to W
              have hof := fun W (hW : Below w.heap.size w W) => outFn_any fb fn fc fr W (i0.below hW)
              obtain ⟨p, hp⟩ : ∃ p, betw to 0 2 = p := ⟨_, rfl⟩
              obtain ⟨q, hq⟩ : ∃ q, fr.all (fun c => betw c 0 2) = q := ⟨_, rfl⟩
              have hgg : g.length ≤ g'.length := by
                cases again with
                | false => have := (hno.out rfl).2; omega
                | true => have := hyes.out rfl; omega
              have HST : Hid (passM name ds m = passM name (ds.drop (i + 1)) (if (decide (m1 = name) && (p && q)) && subM m' fr then m' ||| 2 ^ to.toNat else m')) := Lib.hid (by rw [HS.out, stepM, depIn, hp, hq])
              have HTO : Hid (p = true → 0 ≤ to ∧ to ≤ 2) := Lib.hid (fun h => by rw [h] at hp; simpa [betw] using hp)
              have HFR : Hid (q = true → ∀ c ∈ fr, 0 ≤ c ∧ c ≤ 2) := Lib.hid (fun h => by rw [h] at hq; intro c hc; have := List.all_eq_true.1 hq c hc; simpa [betw] using this)
              simp only [hp] at hic
              simp only [hq] at hof
              have HIC := Lib.hid hic
              have HOF := Lib.hid hof
              clear hic hof hp hq HS
              go_wp2_with fail
              rw [← hw2]
              clear hw2
              clear old2_e_0 old2_e_1 old2_e_2 raw2_e_0 raw2_e_1 raw2_e_2 raw2_f_0 raw2_f_1 raw2_f_2
              refine (HIC.out _).mono ?_
              rintro e w' ⟨rfl, rfl⟩
              cases p with
              | false =>
                have HN : Hid (passM name ds m = passM name (ds.drop (i + 1)) m') := Lib.hid (by rw [HST.out]; simp)
                by_cases hnm : m1 = name
                · have hq9 : (m1.toList == name.toList) = true := by rw [hnm]; simp
                  clear hnm
                  go_wp2_with fail
                  go_roundw
                  case rel => exact ⟨i + 1, m', g', again, by omega, by go_num, hG', rfl, HN.out, hno, hyes, hacc'.wide (Nat.le_refl _) (by omega), hle⟩
                  case measure => simp [intOf]; omega
                · have hq9 := bytes_ne hnm
                  clear hnm
                  go_wp2_with fail
                  go_roundw
                  case rel => exact ⟨i + 1, m', g', again, by omega, by go_num, hG', rfl, HN.out, hno, hyes, hacc'.wide (Nat.le_refl _) (by omega), hle⟩
                  case measure => simp [intOf]; omega
              | true =>
                go_wp2_with fail
                refine (HOF.out _ hb2).mono ?_
                rintro e w' ⟨rfl, rfl⟩
                cases q with
                | false =>
                  have HN : Hid (passM name ds m = passM name (ds.drop (i + 1)) m') := Lib.hid (by rw [HST.out]; simp)
                  by_cases hnm : m1 = name
                  · have hq9 : (m1.toList == name.toList) = true := by rw [hnm]; simp
                    clear hnm
                    go_wp2_with fail
                    go_roundw
                    case rel => exact ⟨i + 1, m', g', again, by omega, by go_num, hG', rfl, HN.out, hno, hyes, hacc'.wide (Nat.le_refl _) (by omega), hle⟩
                    case measure => simp [intOf]; omega
                  · have hq9 := bytes_ne hnm
                    clear hnm
                    go_wp2_with fail
                    go_roundw
                    case rel => exact ⟨i + 1, m', g', again, by omega, by go_num, hG', rfl, HN.out, hno, hyes, hacc'.wide (Nat.le_refl _) (by omega), hle⟩
                    case measure => simp [intOf]; omega
                | true =>
                  by_cases hnm : m1 = name
                  case neg =>
                    have HN : Hid (passM name ds m = passM name (ds.drop (i + 1)) m') := Lib.hid (by rw [HST.out]; simp [hnm])
                    have hq9 := bytes_ne hnm
                    clear hnm
                    go_wp2_with fail
                    go_roundw
                    case rel => exact ⟨i + 1, m', g', again, by omega, by go_num, hG', rfl, HN.out, hno, hyes, hacc'.wide (Nat.le_refl _) (by omega), hle⟩
                    case measure => simp [intOf]; omega
                  have hq9 : (m1.toList == name.toList) = true := by rw [hnm]; simp
                  have HST2 : Hid (passM name ds m = passM name (ds.drop (i + 1)) (if subM m' fr then m' ||| 2 ^ to.toNat else m')) := Lib.hid (by rw [HST.out]; simp [hnm])
                  clear hnm HST
                  have hha := hasAll_any _ _ g' fr _ ((hacc'.own (B := w.heap.size) (Nat.le_refl _) (by omega) (Nat.le_refl _)).rd reads_I) (rI_mk (i0.below hb2) hfc1 hfc2) hbfl
                  rw [hG'.out.sub (HFR.out rfl)] at hha
                  obtain ⟨u, hu⟩ : ∃ u, subM m' fr = u := ⟨_, rfl⟩
                  rw [hu] at hha HST2
                  have HHA := Lib.hid hha
                  clear hha hu
                  go_wp2_with fail
                  refine HHA.out.mono ?_
                  rintro e wG ⟨rfl, zG⟩
                  have s3 := zG.size
                  have hb3 := on hb2 zG
                  replace e_0 := (zG.cell (p := ⟨b1, o1 + i * 3, none⟩) (by simp only []; omega)).trans e_0
                  replace e_1 := (zG.cell (p := ⟨b1, o1 + i * 3 + 1, none⟩) (by simp only []; omega)).trans e_1
                  replace e_2 := (zG.cell (p := ⟨b1, o1 + i * 3 + 2, none⟩) (by simp only []; omega)).trans e_2
                  replace hacc' := hacc'.below zG (by omega)
                  replace hle := hle.trans (turn_below zG (Nat.le_refl _))
                  replace f_0 := (zG.cell (p := ⟨wr.heap.size, 0, none⟩) (by simp only []; omega)).trans f_0
                  replace f_1 := (zG.cell (p := ⟨wr.heap.size, 1, none⟩) (by simp only []; omega)).trans f_1
                  replace f_2 := (zG.cell (p := ⟨wr.heap.size, 2, none⟩) (by simp only []; omega)).trans f_2
                  clear HHA
                  cases u with
                  | false =>
                    have HN : Hid (passM name ds m = passM name (ds.drop (i + 1)) m') := Lib.hid (by rw [HST2.out]; simp)
                    go_wp2_with fail
                    go_roundw
                    case rel => exact ⟨i + 1, m', g', again, by omega, by go_num, hG', rfl, HN.out, hno, hyes, hacc'.wide (Nat.le_refl _) (by omega), hle⟩
                    case measure => simp [intOf]; omega
                  | true =>
                    have hct := contains_any _ _ vcap' g' to _ (rI_ints ((hacc'.own (B := w.heap.size) (Nat.le_refl _) (by omega) (Nat.le_refl _)).rd reads_I))
                    obtain ⟨t, ht⟩ : ∃ t, has g' to = t := ⟨_, rfl⟩
                    rw [ht] at hct
                    have HCT := Lib.hid hct
                    clear hct
                    have hto3 := HTO.out (by trivial)
                    cases t with
                    | true =>
                      have HN : Hid (passM name ds m = passM name (ds.drop (i + 1)) m') := Lib.hid (by rw [HST2.out, if_pos rfl, hG'.out.old hto3 ht])
                      clear ht
                      go_wp2_with (go_at_call 124; refine (HCT.out).mono ?_; rintro e w' ⟨rfl, rfl⟩)
                      go_roundw
                      case rel => exact ⟨i + 1, m', g', again, by omega, by go_num, hG', rfl, HN.out, hno, hyes, hacc'.wide (Nat.le_refl _) (by omega), hle⟩
                      case measure => simp [intOf]; omega
                    | false =>
                      have HN : Hid (passM name ds m = passM name (ds.drop (i + 1)) (m' ||| 2 ^ to.toNat)) := Lib.hid (by rw [HST2.out, if_pos rfl])
                      have HG2 := Lib.hid (hG'.out.add hto3 ht)
                      have HL2 : Hid (g.length < (g' ++ [to]).length) := Lib.hid (by rw [List.length_append]; simp; omega)
                      clear ht
                      go_wp2_with (first
                        | (go_at_call 124; refine (HCT.out).mono ?_; rintro e w' ⟨rfl, rfl⟩)
                        | (at_builtin; refine wpList_accI _ _ _ _ _ hacc' hle rfl (by omega) (by omega) ⟨by omega, by omega⟩ (by omega) rfl rfl rfl rfl rfl ?_; intro v' w1 hacc2 ht2 hsz2))
                      go_roundw
                      case rel => exact ⟨i + 1, _, g' ++ [to], true, by omega, by go_num, HG2, rfl, HN.out, Lib.hid (fun h => by cases h), Lib.hid (fun _ => HL2.out), hacc2, ht2⟩
                      case measure => simp [intOf]; omega
            · have HE : Hid (passM name ds m = m') := Lib.hid (hF.out.trans (passM_end (by omega)))
              clear hF
              cases again with
              | false =>
                obtain ⟨hmm, hll⟩ := hno.out rfl
                subst hmm
                have HQ : Hid (false = false → passM name ds m' = m') := Lib.hid (fun _ => HE.out)
                clear hno hyes hst hG
                go_wp2_with fail
                first
                  | (go_roundw; (case rel => exact ⟨m', g', false, hG', rfl, hE, HQ, hacc', hle⟩); (case measure => (simp [lenOf, flagOf]; omega)))
                  | fail "R1"
              | true =>
                have hll := hyes.out rfl
                have HQ : Hid (closure ds name cols = bitsTo (clo name ds m') 3) := Lib.hid (by rw [hE.out, ← HE.out, clo_pass hG.out.lt])
                clear hno hyes hst hE
                go_wp2_with fail
                first
                  | (go_roundw; (case rel => exact ⟨m', g', true, hG', rfl, HQ, Lib.hid (fun h => by cases h), hacc', hle⟩); (case measure => (simp [lenOf, flagOf]; omega)))
                  | fail "R2"

end Go.Proofs.Ytbkoddikfpkocaa

/- Contracts: closures of columns, by the reference. -/
namespace Go.Proofs.Ytbkoddikfpkocaa
open Go.RowKit
set_option linter.unusedVariables false
set_option linter.unusedSimpArgs false
set_option synthInstance.maxSize 2000
set_option synthInstance.maxHeartbeats 400000

/-- Columns laid over a set. -/
def orM (m : Nat) (cs : List Int) : Nat := cs.foldl (fun m c => if betw c 0 2 then m ||| 2 ^ c.toNat else m) m
theorem orM_at {m j : Nat} {cs : List Int} {x : Int} (hj : j < cs.length) (hx : cs.getD j 0 = x) : orM m (cs.drop j) = orM (if betw x 0 2 then m ||| 2 ^ x.toNat else m) (cs.drop (j + 1)) := by
  rw [drop_cons cs j hj, hx]; rfl
theorem orM_end {m j : Nat} {cs : List Int} (hj : cs.length ≤ j) : orM m (cs.drop j) = m := by
  rw [List.drop_eq_nil_of_le hj]; rfl
theorem betw2 {x : Int} (h : betw x 0 2 = true) : 0 ≤ x ∧ x ≤ 2 := by
  simpa [betw] using h
theorem orM_spec : ∀ {cs : List Int} {m : Nat}, m < 8 → orM m cs < 8 ∧ ∀ j : Nat, j < 3 → bitAt (orM m cs) j = (bitAt m j || has cs (j : Int))
  | [], m, h => ⟨h, fun j _ => by simp [orM, has]⟩
  | x :: t, m, h => by
    show orM (if betw x 0 2 then m ||| 2 ^ x.toNat else m) t < 8 ∧ ∀ j : Nat, j < 3 → bitAt (orM (if betw x 0 2 then m ||| 2 ^ x.toNat else m) t) j = _
    by_cases hb : betw x 0 2 = true
    · rw [if_pos hb]
      have hx := betw2 hb
      obtain ⟨h1, h2⟩ := @orM_spec t (m ||| 2 ^ x.toNat) (Nat.or_lt_two_pow (n := 3) h (pow_to hx))
      refine ⟨h1, fun j hj => ?_⟩
      rw [h2 j hj, bitAt_or, bitAt_pow, Bool.or_assoc]
      congr 1
      rw [Bool.eq_iff_iff]
      simp only [has, Bool.or_eq_true, decide_eq_true_eq, List.mem_cons]
      constructor
      · rintro (e | e)
        · exact .inl (by omega)
        · exact .inr e
      · rintro (e | e)
        · exact .inl (by omega)
        · exact .inr e
    · rw [if_neg hb]
      obtain ⟨h1, h2⟩ := @orM_spec t m h
      refine ⟨h1, fun j hj => ?_⟩
      rw [h2 j hj]
      congr 1
      rw [Bool.eq_iff_iff]
      simp only [has, decide_eq_true_eq, List.mem_cons]
      constructor
      · exact fun e => .inr e
      · rintro (e | e)
        · subst e; exact absurd (by simp [betw]; omega) hb
        · exact e
theorem eq8 : ∀ a b : Fin 8, bitAt a.val 0 = bitAt b.val 0 → bitAt a.val 1 = bitAt b.val 1 → bitAt a.val 2 = bitAt b.val 2 → a = b := by decide
theorem orM_mask (cs : List Int) : orM 0 cs = maskIn cs := by
  obtain ⟨h1, h2⟩ := @orM_spec cs 0 (by omega)
  have key : ∀ j : Nat, j < 3 → bitAt (orM 0 cs) j = bitAt (maskIn cs) j := fun j hj => by
    rw [h2 j hj, maskIn_bit cs j hj]
    have : bitAt 0 j = false := by simp [bitAt]
    rw [this, Bool.false_or]
  have := eq8 ⟨_, h1⟩ ⟨_, maskIn_lt cs⟩ (key 0 (by omega)) (key 1 (by omega)) (key 2 (by omega))
  exact congrArg Fin.val this
/-- So many passes. -/
def passN (name : ByteArray) (ds : List DDp) : Nat → Nat → Nat
  | 0, m => m
  | k + 1, m => passN name ds k (passM name ds m)
theorem passN_at {name : ByteArray} {ds : List DDp} {n m : Nat} (h : n < 3) : passN name ds (3 - n) m = passN name ds (3 - (n + 1)) (passM name ds m) := by
  rw [show 3 - n = (3 - (n + 1)) + 1 by omega]; rfl
/-- What is left of a dependency's columns to be looked at. -/
def fromM (m : Nat) (cs : List Int) : Bool := cs.all (fun c => betw c 0 2 && bitAt m c.toNat)
theorem fromM_at {m j : Nat} {cs : List Int} {x : Int} (hj : j < cs.length) (hx : cs.getD j 0 = x) : fromM m (cs.drop j) = ((betw x 0 2 && bitAt m x.toNat) && fromM m (cs.drop (j + 1))) := by
  rw [drop_cons cs j hj, hx]; rfl
theorem fromM_end {m j : Nat} {cs : List Int} (hj : cs.length ≤ j) : fromM m (cs.drop j) = true := by
  rw [List.drop_eq_nil_of_le hj]; rfl
theorem depIn_from {name m1 : ByteArray} {fr : List Int} {to : Int} {m : Nat} : (depIn name (m1, fr, to) && subM m fr) = ((decide (m1 = name) && betw to 0 2) && fromM m fr) := by
  rw [Bool.eq_iff_iff]
  simp only [depIn, subM, fromM, Bool.and_eq_true, List.all_eq_true]
  constructor
  · rintro ⟨⟨h1, h2, h3⟩, h4⟩
    exact ⟨⟨h1, h2⟩, fun c hc => ⟨h3 c hc, h4 c hc⟩⟩
  · rintro ⟨⟨h1, h2⟩, h3⟩
    exact ⟨⟨h1, h2, fun c hc => (h3 c hc).1⟩, fun c hc => (h3 c hc).2⟩
theorem and3 {x : Int} (h : 0 ≤ x ∧ x ≤ 2) : bits .and .i64 x 3 = x := by
  have : x = 0 ∨ x = 1 ∨ x = 2 := by omega
  rcases this with rfl | rfl | rfl <;> decide
theorem bitTest8 {m c : Nat} (hm : m < 8) : (bits BinOp.and IntKind.i64 ((m : Int) / 2 ^ c) 1 == 1) = bitAt m c := bit_test m c (by omega)

set_option maxRecDepth 100000 in
set_option maxHeartbeats 4000000 in
theorem closure_spec (a : Option Addr) (n cap : Nat) (ds : List DDp) (name : ByteArray) (b : Option Addr) (cn cc : Nat) (cols : List Int) (w : World) (h : Sl rDp w a n ds) (h' : Ints w b cn cols) :
    Calls Try.prog 51 #[.slice a n cap, .string name, .slice b cn cc] w fun e w' => ∃ u, e = .returned u ∧ Own oI w.heap.size w'.heap.size w' [u] (closure ds name cols) ∧ Below w.heap.size w w' := by
  have hl := h.len
  have hn := h.small
  have hl' := h'.len
  have hn' := h'.small
  have HV : Hid (maskIn cols = orM 0 (cols.drop 0)) := Lib.hid (by rw [List.drop_zero, orM_mask])
  have hb0 : Below w.heap.size w w := Below.refl _ _
  go_enter Try.func51, Try.ntmps51
  go_wp2_with fail
  go_loopw [7, 8] (fun s k wr => ∃ j m : Nat, j ≤ cn ∧ m < 8 ∧ s = .int .i64 m ∧ k = .int .i64 j ∧ Hid (maskIn cols = orM m (cols.drop j)) ∧ w = wr) (fun _ k _ => cn - (intOf k).toNat)
  case atStart => exact ⟨0, 0, Nat.zero_le _, by omega, rfl, rfl, HV.out, rfl⟩
  case round =>
    obtain ⟨j, m, hj, hm, rfl, rfl, hE, rfl⟩ := hrel
    by_cases hlt : j < cn
    · obtain ⟨b0, o0, x, rfl, hc, hx, hx1, hx2⟩ := h'.get hlt
      have c0_lt : b0 < w.heap.size := cell_lt hc
      have c0 : w.cell? ⟨b0, o0 + j, none⟩ = some (.int .i64 x) := (hb0.cell (p := ⟨b0, o0 + j, none⟩) c0_lt).trans hc
      have HA := Lib.hid (hE.out.trans (orM_at (by omega) hx.out))
      clear hE HV h h' hl hl' hc
      by_cases hb : betw x 0 2 = true
      · obtain ⟨c, rfl, hc2⟩ := betw_nat hb
        have HE : Hid (maskIn cols = orM (m ||| 2 ^ c) (cols.drop (j + 1))) := Lib.hid (by rw [HA.out, if_pos hb]; rfl)
        have hmo : m ||| 2 ^ c < 8 := Nat.or_lt_two_pow (n := 3) hm (pow_to (x := (c : Int)) ⟨by omega, by omega⟩)
        have hcall := l1In_any (c : Int) 0 2 w
        rw [hb] at hcall
        have HC := Lib.hid hcall
        clear HA hx hcall hb
        go_wp2_with fail
        refine (HC.out).mono ?_
        rintro e w' ⟨rfl, rfl⟩
        go_wp2_with fail
        go_roundw
        case rel => exact ⟨j + 1, m ||| 2 ^ c, by omega, hmo, by show Value.int _ _ = _; first | (rw [or_pow (by omega) (by omega)]) | (rw [← or_pow (m := m) (v := c) (by omega) (by omega)]; rfl), by go_num, HE.out, trivial⟩
        case measure => simp [intOf]; omega
      · have HE : Hid (maskIn cols = orM m (cols.drop (j + 1))) := Lib.hid (by rw [HA.out, if_neg hb])
        have hcall := l1In_any x 0 2 w
        rw [show betw x 0 2 = false by simpa using hb] at hcall
        have HC := Lib.hid hcall
        clear HA hx hcall hb
        go_wp2_with fail
        refine (HC.out).mono ?_
        rintro e w' ⟨rfl, rfl⟩
        go_wp2_with fail
        go_roundw
        case rel => exact ⟨j + 1, m, by omega, hm, rfl, by go_num, HE.out, trivial⟩
        case measure => simp [intOf]; omega
    · have HM : Hid (closure ds name cols = bitsTo (passN name ds (3 - 0) m) 3) := Lib.hid (by rw [closure, hE.out, orM_end (by omega)]; rfl)
      clear hE HV h' hl'
      go_wp2_with fail
      go_loopw [7, 9] (fun s k wr => ∃ j m : Nat, j ≤ 3 ∧ m < 8 ∧ s = .int .i64 m ∧ k = .int .i64 j ∧ Hid (closure ds name cols = bitsTo (passN name ds (3 - j) m) 3) ∧ w = wr) (fun _ k _ => 3 - (intOf k).toNat)
      case atStart => exact ⟨0, m, by omega, hm, rfl, rfl, HM.out, rfl⟩
      case round =>
        obtain ⟨r, m, hr3, hm, rfl, rfl, hE, rfl⟩ := hrel
        clear HM
        by_cases hlt3 : r < 3
        · have HP : Hid (passM name ds m = passM name (ds.drop 0) m) := rfl
          have HA : Hid (closure ds name cols = bitsTo (passN name ds (3 - (r + 1)) (passM name ds m)) 3) := Lib.hid (by rw [hE.out, passN_at hlt3])
          clear hE
          have hr9 : (r : Int) < 3 := by omega
          have hd3 : decide ((r : Int) < 3) = true := decide_eq_true hr9
          go_wp2_with fail
          go_loopw [7, 10] (fun s k wr => ∃ j m' : Nat, j ≤ n ∧ m' < 8 ∧ s = .int .i64 m' ∧ k = .int .i64 j ∧ Hid (passM name ds m = passM name (ds.drop j) m') ∧ w = wr) (fun _ k _ => n - (intOf k).toNat)
          case atStart => exact ⟨0, m, Nat.zero_le _, hm, rfl, rfl, HP.out, rfl⟩
          case round =>
            obtain ⟨i, m', hi, hm', rfl, rfl, hF, rfl⟩ := hrel
            clear HP
            by_cases hlti : i < n
            · obtain ⟨b1, o1, cs, f, rfl, hx, hr, hc⟩ := h.at hlti
              obtain ⟨m1, fr, to⟩ := f
              obtain ⟨fb, fn, fc, rfl, hs0, gf, hto⟩ := rDp_open hr
              simp only at hs0 gf hto
              have i0 := rI_ints gf
              have hfl := i0.len
              have hfn := i0.small
              have e_lt : b1 < w.heap.size := cell_lt (hc 0 _ rfl)
              have e_0 : w.cell? ⟨b1, o1 + i * 3, none⟩ = some (.string m1) := (hb0.cell (p := ⟨b1, o1 + i * 3, none⟩) e_lt).trans (by have h9 := hc 0 _ rfl; rw [← Nat.add_assoc] at h9; exact h9)
              have e_1 : w.cell? ⟨b1, o1 + i * 3 + 1, none⟩ = some (.slice fb fn fc) := (hb0.cell (p := ⟨b1, o1 + i * 3 + 1, none⟩) e_lt).trans (by have h9 := hc 1 _ rfl; rw [← Nat.add_assoc] at h9; exact h9)
              have e_2 : w.cell? ⟨b1, o1 + i * 3 + 2, none⟩ = some (.int .i64 to) := (hb0.cell (p := ⟨b1, o1 + i * 3 + 2, none⟩) e_lt).trans (by have h9 := hc 2 _ rfl; rw [← Nat.add_assoc] at h9; exact h9)
              have HS := Lib.hid (hF.out.trans (passM_at hx.out))
              obtain ⟨D, hD⟩ : ∃ D, D = (depIn name (m1, fr, to) && subM m' fr) := ⟨_, rfl⟩
              have HD : Hid (D = ((decide (m1 = name) && betw to 0 2) && fromM m' (fr.drop 0))) := Lib.hid (by rw [hD, depIn_from]; rfl)
              have HT : Hid (D = true → 0 ≤ to ∧ to ≤ 2) := Lib.hid (fun h => by rw [hD, Bool.and_eq_true] at h; exact depIn_to h.1)
              have HS2 : Hid (passM name ds m = passM name (ds.drop (i + 1)) (if D then m' ||| 2 ^ to.toNat else m')) := Lib.hid (by rw [HS.out, stepM, ← hD])
              clear hF HS hD hc hx hr gf hs0 hl
              obtain ⟨p, hp⟩ : ∃ p, betw to 0 2 = p := ⟨_, rfl⟩
              have hcall := l1In_any to 0 2 w
              rw [hp] at hcall HD
              have HC := Lib.hid hcall
              clear hcall hp
              by_cases hnm : m1 = name
              · have hnm' := hnm.symm
                subst hnm'
                have hq : (name.toList == name.toList) = true := by simp
                rw [decide_eq_true rfl, Bool.true_and] at HD
                go_wp2_with fail
                refine (HC.out).mono ?_
                rintro e w' ⟨rfl, rfl⟩
                go_wp2_with fail
                go_loopw [11, 12] (fun s k wr => ∃ (q : Nat) (b : Bool), q ≤ fn ∧ s = .bool b ∧ k = .int .i64 q ∧ Hid (D = (b && fromM m' (fr.drop q))) ∧ w = wr) (fun _ k _ => fn - (intOf k).toNat)
                case atStart => exact ⟨0, p, Nat.zero_le _, rfl, rfl, HD.out, rfl⟩
                case round =>
                  obtain ⟨q, b, hq, rfl, rfl, hG, rfl⟩ := hrel
                  clear HD
                  by_cases hltq : q < fn
                  · obtain ⟨b2, o2, x, rfl, hcx, hx, hx1, hx2⟩ := i0.get hltq
                    have x0_lt : b2 < w.heap.size := cell_lt hcx
                    have x0 : w.cell? ⟨b2, o2 + q, none⟩ = some (.int .i64 x) := (hb0.cell (p := ⟨b2, o2 + q, none⟩) x0_lt).trans hcx
                    have HA2 := Lib.hid (hG.out.trans (by rw [fromM_at (by omega) hx.out]))
                    clear hG hcx hx
                    cases b with
                    | false =>
                      have HE : Hid (D = (false && fromM m' (fr.drop (q + 1)))) := Lib.hid (by rw [HA2.out]; rfl)
                      go_wp2_with fail
                      first
                        | (go_roundw; (case rel => exact ⟨q + 1, false, by omega, rfl, by go_num, HE.out, trivial⟩); (case measure => (simp [intOf]; omega)))
                        | (refine ⟨?_, ?measure⟩; (iterate 30 apply Exists.intro); (repeat apply Exists.intro); refine ⟨?rel, rfl⟩; (case rel => exact ⟨q + 1, false, by omega, rfl, by go_num, HE.out, trivial⟩); (case measure => (simp [intOf]; omega)))
                    | true =>
                      by_cases hb : betw x 0 2 = true
                      · obtain ⟨c, rfl, hc2⟩ := betw_nat hb
                        have hcall2 := l1In_any (c : Int) 0 2 w
                        rw [hb] at HA2 hcall2
                        have HC2 := Lib.hid hcall2
                        have ha3 := and3 (x := (c : Int)) ⟨by omega, by omega⟩
                        have hbt := bitTest8 (c := c) hm'
                        obtain ⟨t, ht⟩ : ∃ t, bitAt m' c = t := ⟨_, rfl⟩
                        have HE : Hid (D = (t && fromM m' (fr.drop (q + 1)))) := Lib.hid (by rw [HA2.out, show bitAt m' (c : Int).toNat = t from ht]; cases t <;> rfl)
                        rw [ht] at hbt
                        clear HA2 hcall2 hb ht
                        cases t with
                        | true =>
                          go_wp2_with fail
                          refine (HC2.out).mono ?_
                          rintro e w' ⟨rfl, rfl⟩
                          go_wp2_with fail
                          first
                            | (go_roundw; (case rel => exact ⟨q + 1, true, by omega, rfl, by go_num, HE.out, trivial⟩); (case measure => (simp [intOf]; omega)))
                            | (refine ⟨?_, ?measure⟩; (iterate 30 apply Exists.intro); (repeat apply Exists.intro); refine ⟨?rel, rfl⟩; (case rel => exact ⟨q + 1, true, by omega, rfl, by go_num, HE.out, trivial⟩); (case measure => (simp [intOf]; omega)))
                        | false =>
                          go_wp2_with fail
                          refine (HC2.out).mono ?_
                          rintro e w' ⟨rfl, rfl⟩
                          go_wp2_with fail
                          first
                            | (go_roundw; (case rel => exact ⟨q + 1, false, by omega, rfl, by go_num, HE.out, trivial⟩); (case measure => (simp [intOf]; omega)))
                            | (refine ⟨?_, ?measure⟩; (iterate 30 apply Exists.intro); (repeat apply Exists.intro); refine ⟨?rel, rfl⟩; (case rel => exact ⟨q + 1, false, by omega, rfl, by go_num, HE.out, trivial⟩); (case measure => (simp [intOf]; omega)))
                      · have hcall2 := l1In_any x 0 2 w
                        have hbf : betw x 0 2 = false := by simpa using hb
                        rw [hbf] at HA2 hcall2
                        have HC2 := Lib.hid hcall2
                        have HE : Hid (D = (false && fromM m' (fr.drop (q + 1)))) := Lib.hid (by rw [HA2.out]; rfl)
                        clear HA2 hcall2 hb hbf
                        go_wp2_with fail
                        refine (HC2.out).mono ?_
                        rintro e w' ⟨rfl, rfl⟩
                        go_wp2_with fail
                        first
                          | (go_roundw; (case rel => exact ⟨q + 1, false, by omega, rfl, by go_num, HE.out, trivial⟩); (case measure => (simp [intOf]; omega)))
                          | (refine ⟨?_, ?measure⟩; (iterate 30 apply Exists.intro); (repeat apply Exists.intro); refine ⟨?rel, rfl⟩; (case rel => exact ⟨q + 1, false, by omega, rfl, by go_num, HE.out, trivial⟩); (case measure => (simp [intOf]; omega)))
                  · have HE : Hid (D = b) := Lib.hid (by rw [hG.out, fromM_end (by omega), Bool.and_true])
                    clear hG i0 hfl
                    cases b with
                    | false =>
                      have HE2 : Hid (passM name ds m = passM name (ds.drop (i + 1)) m') := Lib.hid (by rw [HS2.out, HE.out]; rfl)
                      go_wp2_with fail
                      first
                        | (go_roundw; (case rel => exact ⟨i + 1, m', by omega, hm', rfl, by go_num, HE2.out, trivial⟩); (case measure => (simp [intOf]; omega)))
                        | (refine ⟨?_, ?measure⟩; (iterate 30 apply Exists.intro); (repeat apply Exists.intro); refine ⟨?rel, rfl⟩; (case rel => exact ⟨i + 1, m', by omega, hm', rfl, by go_num, HE2.out, trivial⟩); (case measure => (simp [intOf]; omega)))
                    | true =>
                      have hto := HT.out HE.out
                      have HE2 : Hid (passM name ds m = passM name (ds.drop (i + 1)) (m' ||| 2 ^ to.toNat)) := Lib.hid (by rw [HS2.out, HE.out]; rfl)
                      have hmo : m' ||| 2 ^ to.toNat < 8 := Nat.or_lt_two_pow (n := 3) hm' (pow_to hto)
                      obtain ⟨tn, rfl⟩ : ∃ tn : Nat, to = (tn : Int) := ⟨to.toNat, by omega⟩
                      have htn : tn ≤ 2 := by omega
                      rw [Int.toNat_natCast] at HE2 hmo
                      clear hto HT HS2
                      go_wp2_with fail
                      first
                        | (go_roundw; (case rel => exact ⟨i + 1, m' ||| 2 ^ tn, by omega, hmo, by show Value.int _ _ = _; first | (rw [or_pow (by omega) (by omega)]) | (rw [← or_pow (m := m') (v := tn) (by omega) (by omega)]; rfl), by go_num, HE2.out, trivial⟩); (case measure => (simp [intOf]; omega)))
                        | (refine ⟨?_, ?measure⟩; (iterate 30 apply Exists.intro); (repeat apply Exists.intro); refine ⟨?rel, rfl⟩; (case rel => exact ⟨i + 1, m' ||| 2 ^ tn, by omega, hmo, by show Value.int _ _ = _; first | (rw [or_pow (by omega) (by omega)]) | (rw [← or_pow (m := m') (v := tn) (by omega) (by omega)]; rfl), by go_num, HE2.out, trivial⟩); (case measure => (simp [intOf]; omega)))
              · have hq := bytes_ne hnm
                rw [decide_eq_false hnm, Bool.false_and] at HD
                clear hnm HC
                go_wp2_with fail
                go_loopw [11, 12] (fun s k wr => ∃ (q : Nat) (b : Bool), q ≤ fn ∧ s = .bool b ∧ k = .int .i64 q ∧ Hid (D = (b && fromM m' (fr.drop q))) ∧ w = wr) (fun _ k _ => fn - (intOf k).toNat)
                case atStart => exact ⟨0, false, Nat.zero_le _, rfl, rfl, HD.out, rfl⟩
                case round =>
                  obtain ⟨q, b, hq, rfl, rfl, hG, rfl⟩ := hrel
                  clear HD
                  by_cases hltq : q < fn
                  · obtain ⟨b2, o2, x, rfl, hcx, hx, hx1, hx2⟩ := i0.get hltq
                    have x0_lt : b2 < w.heap.size := cell_lt hcx
                    have x0 : w.cell? ⟨b2, o2 + q, none⟩ = some (.int .i64 x) := (hb0.cell (p := ⟨b2, o2 + q, none⟩) x0_lt).trans hcx
                    have HA2 := Lib.hid (hG.out.trans (by rw [fromM_at (by omega) hx.out]))
                    clear hG hcx hx
                    cases b with
                    | false =>
                      have HE : Hid (D = (false && fromM m' (fr.drop (q + 1)))) := Lib.hid (by rw [HA2.out]; rfl)
                      go_wp2_with fail
                      first
                        | (go_roundw; (case rel => exact ⟨q + 1, false, by omega, rfl, by go_num, HE.out, trivial⟩); (case measure => (simp [intOf]; omega)))
                        | (refine ⟨?_, ?measure⟩; (iterate 30 apply Exists.intro); (repeat apply Exists.intro); refine ⟨?rel, rfl⟩; (case rel => exact ⟨q + 1, false, by omega, rfl, by go_num, HE.out, trivial⟩); (case measure => (simp [intOf]; omega)))
                    | true =>
                      by_cases hb : betw x 0 2 = true
                      · obtain ⟨c, rfl, hc2⟩ := betw_nat hb
                        have hcall2 := l1In_any (c : Int) 0 2 w
                        rw [hb] at HA2 hcall2
                        have HC2 := Lib.hid hcall2
                        have ha3 := and3 (x := (c : Int)) ⟨by omega, by omega⟩
                        have hbt := bitTest8 (c := c) hm'
                        obtain ⟨t, ht⟩ : ∃ t, bitAt m' c = t := ⟨_, rfl⟩
                        have HE : Hid (D = (t && fromM m' (fr.drop (q + 1)))) := Lib.hid (by rw [HA2.out, show bitAt m' (c : Int).toNat = t from ht]; cases t <;> rfl)
                        rw [ht] at hbt
                        clear HA2 hcall2 hb ht
                        cases t with
                        | true =>
                          go_wp2_with fail
                          refine (HC2.out).mono ?_
                          rintro e w' ⟨rfl, rfl⟩
                          go_wp2_with fail
                          first
                            | (go_roundw; (case rel => exact ⟨q + 1, true, by omega, rfl, by go_num, HE.out, trivial⟩); (case measure => (simp [intOf]; omega)))
                            | (refine ⟨?_, ?measure⟩; (iterate 30 apply Exists.intro); (repeat apply Exists.intro); refine ⟨?rel, rfl⟩; (case rel => exact ⟨q + 1, true, by omega, rfl, by go_num, HE.out, trivial⟩); (case measure => (simp [intOf]; omega)))
                        | false =>
                          go_wp2_with fail
                          refine (HC2.out).mono ?_
                          rintro e w' ⟨rfl, rfl⟩
                          go_wp2_with fail
                          first
                            | (go_roundw; (case rel => exact ⟨q + 1, false, by omega, rfl, by go_num, HE.out, trivial⟩); (case measure => (simp [intOf]; omega)))
                            | (refine ⟨?_, ?measure⟩; (iterate 30 apply Exists.intro); (repeat apply Exists.intro); refine ⟨?rel, rfl⟩; (case rel => exact ⟨q + 1, false, by omega, rfl, by go_num, HE.out, trivial⟩); (case measure => (simp [intOf]; omega)))
                      · have hcall2 := l1In_any x 0 2 w
                        have hbf : betw x 0 2 = false := by simpa using hb
                        rw [hbf] at HA2 hcall2
                        have HC2 := Lib.hid hcall2
                        have HE : Hid (D = (false && fromM m' (fr.drop (q + 1)))) := Lib.hid (by rw [HA2.out]; rfl)
                        clear HA2 hcall2 hb hbf
                        go_wp2_with fail
                        refine (HC2.out).mono ?_
                        rintro e w' ⟨rfl, rfl⟩
                        go_wp2_with fail
                        first
                          | (go_roundw; (case rel => exact ⟨q + 1, false, by omega, rfl, by go_num, HE.out, trivial⟩); (case measure => (simp [intOf]; omega)))
                          | (refine ⟨?_, ?measure⟩; (iterate 30 apply Exists.intro); (repeat apply Exists.intro); refine ⟨?rel, rfl⟩; (case rel => exact ⟨q + 1, false, by omega, rfl, by go_num, HE.out, trivial⟩); (case measure => (simp [intOf]; omega)))
                  · have HE : Hid (D = b) := Lib.hid (by rw [hG.out, fromM_end (by omega), Bool.and_true])
                    clear hG i0 hfl
                    cases b with
                    | false =>
                      have HE2 : Hid (passM name ds m = passM name (ds.drop (i + 1)) m') := Lib.hid (by rw [HS2.out, HE.out]; rfl)
                      go_wp2_with fail
                      first
                        | (go_roundw; (case rel => exact ⟨i + 1, m', by omega, hm', rfl, by go_num, HE2.out, trivial⟩); (case measure => (simp [intOf]; omega)))
                        | (refine ⟨?_, ?measure⟩; (iterate 30 apply Exists.intro); (repeat apply Exists.intro); refine ⟨?rel, rfl⟩; (case rel => exact ⟨i + 1, m', by omega, hm', rfl, by go_num, HE2.out, trivial⟩); (case measure => (simp [intOf]; omega)))
                    | true =>
                      have hto := HT.out HE.out
                      have HE2 : Hid (passM name ds m = passM name (ds.drop (i + 1)) (m' ||| 2 ^ to.toNat)) := Lib.hid (by rw [HS2.out, HE.out]; rfl)
                      have hmo : m' ||| 2 ^ to.toNat < 8 := Nat.or_lt_two_pow (n := 3) hm' (pow_to hto)
                      obtain ⟨tn, rfl⟩ : ∃ tn : Nat, to = (tn : Int) := ⟨to.toNat, by omega⟩
                      have htn : tn ≤ 2 := by omega
                      rw [Int.toNat_natCast] at HE2 hmo
                      clear hto HT HS2
                      go_wp2_with fail
                      first
                        | (go_roundw; (case rel => exact ⟨i + 1, m' ||| 2 ^ tn, by omega, hmo, by show Value.int _ _ = _; first | (rw [or_pow (by omega) (by omega)]) | (rw [← or_pow (m := m') (v := tn) (by omega) (by omega)]; rfl), by go_num, HE2.out, trivial⟩); (case measure => (simp [intOf]; omega)))
                        | (refine ⟨?_, ?measure⟩; (iterate 30 apply Exists.intro); (repeat apply Exists.intro); refine ⟨?rel, rfl⟩; (case rel => exact ⟨i + 1, m' ||| 2 ^ tn, by omega, hmo, by show Value.int _ _ = _; first | (rw [or_pow (by omega) (by omega)]) | (rw [← or_pow (m := m') (v := tn) (by omega) (by omega)]; rfl), by go_num, HE2.out, trivial⟩); (case measure => (simp [intOf]; omega)))
            · have HE : Hid (passM name ds m = m') := Lib.hid (hF.out.trans (passM_end (by omega)))
              have HE2 : Hid (closure ds name cols = bitsTo (passN name ds (3 - (r + 1)) m') 3) := Lib.hid (by rw [HA.out, HE.out])
              clear hF HE HA
              go_wp2_with fail
              go_roundw
              case rel => exact ⟨r + 1, m', by omega, hm', rfl, by go_num, HE2.out, trivial⟩
              case measure => simp [intOf]; omega
        · have HB : Hid (closure ds name cols = bitsTo m 3) := Lib.hid (by rw [hE.out, show 3 - r = 0 by omega]; rfl)
          clear hE h hl
          go_wp2_with fail
          obtain ⟨w1, hw1⟩ : ∃ W, W = w.alloc (.cells #[] 3) := ⟨_, rfl⟩
          have z1 : Below w.heap.size w w1 := by rw [hw1]; exact (Below.refl _ _).alloc (Nat.le_refl _) _
          have s1 : w1.heap.size = w.heap.size + 1 := by rw [hw1]; simp
          have hb1 := on hb0 z1
          have he : ∀ S, Acc 3 O.int w.heap.size S w1.heap.size w1 (.slice (some ⟨w.heap.size, 0, none⟩) 0 0) [] := fun S => by rw [hw1]; exact Acc.empty (by omega) (by first | (simp; done) | (simp; omega))
          go_wp2_with fail
          rw [← hw1]
          clear hw1
          go_loopw [13, 14] (fun v k wr => ∃ j : Nat, j ≤ 3 ∧ k = .int .i64 j ∧ Acc 3 O.int w.heap.size w1.heap.size wr.heap.size wr v (bitsTo m j) ∧ Turn w.heap.size (w.heap.size + 1) w1 wr) (fun _ k _ => 3 - (intOf k).toNat)
          case atStart => exact ⟨0, Nat.zero_le _, rfl, (he _).wide (Nat.le_refl _) (by omega), turn_refl _ _ _⟩
          case round =>
            obtain ⟨j, hj, rfl, hacc, hdr⟩ := hrel
            have hlc := hdr
            have s2 := hdr.size
            have hb2 := hb1.trans ((hdr.below (by omega)).mono (by omega))
            have hbl := bitsTo_len m j
            by_cases hlt : j < 3
            · have hbt := bitTest8 (c := j) hm
              cases hb : bitAt m j with
              | true =>
                rw [hb] at hbt
                have HB2 := Lib.hid (bitsTo_yes hb)
                clear hb
                go_wp2_with ((at_builtin; refine wpList_accI _ _ _ _ _ hacc hlc rfl (by omega) (Nat.le_refl _) ⟨by omega, by omega⟩ (by omega) rfl rfl rfl rfl rfl ?_; intro v' w1 hacc' ht' hsz'))
                rw [← HB2.out] at hacc'
                go_roundw
                case rel => exact ⟨j + 1, by omega, by go_num, hacc', ht'⟩
                case measure => simp [intOf]; omega
              | false =>
                rw [hb] at hbt
                rw [← bitsTo_no hb] at hacc
                have HO := Lib.hid hacc
                clear hb hacc
                go_wp2_with fail
                go_roundw
                case rel => exact ⟨j + 1, by omega, by go_num, HO.out, hlc⟩
                case measure => simp [intOf]; omega
            · obtain rfl : j = 3 := by omega
              obtain ⟨a', n', cap2, rfl⟩ := hacc.form3
              rw [← HB.out] at hacc
              have HO := Lib.hid (hacc.own (B := w.heap.size) (by omega) (by omega) (Nat.le_refl _))
              clear hacc he
              go_wp2_with fail
              go_ret
              exact ⟨_, rfl, HO.out, hb2⟩

end Go.Proofs.Ytbkoddikfpkocaa

/- Contracts: closures of columns, a contract a side. -/
namespace Go.Proofs.Ytbkoddikfpkocaa
open Go.RowKit
set_option linter.unusedVariables false
set_option linter.unusedSimpArgs false

theorem bulk_Dl_mem {ds : List DDp} (hb : bulk_Dl ds ≤ 1048576) : ∀ f ∈ ds, f.2.1.length ≤ 1000000000 ∧ f.2.1.length ≤ 1048576 := by
  intro f hf
  obtain ⟨j, hj, rfl⟩ := List.mem_iff_getElem.1 hf
  have h1 := sumBy_mem bulk_Dp (List.getElem?_eq_getElem hj)
  have h2 : bulk_Dp ds[j] = ds[j].1.size + bulk_I ds[j].2.1 := rfl
  have h3 : bulk_I ds[j].2.1 = ds[j].2.1.length := rfl
  have h4 : bulk_Dl ds = ds.length + sumBy bulk_Dp ds := rfl
  omega
theorem closure_spec' (u v : Value) (ds : List DDp) (name : ByteArray) (cols : List Int) (w : World) (h : rDl.rep w [u] ds) (h' : rI.rep w [v] cols) :
    Calls Try.prog 51 #[u, .string name, v] w fun e w' => ∃ u, e = .returned u ∧ Own oI w.heap.size w'.heap.size w' [u] (closure ds name cols) ∧ Below w.heap.size w w' := by
  obtain ⟨a, n, c, hv⟩ := rS_form h
  simp at hv; subst hv
  obtain ⟨b, m, d, hv⟩ := rI_form h'
  simp at hv; subst hv
  exact closure_spec a n c ds name b m d cols w (rS_sl h) (rI_ints h')
theorem closure_impl' (u v : Value) (ds : List DDp) (name : ByteArray) (cols : List Int) (w : World) (h : rDl.rep w [u] ds) (h' : rI.rep w [v] cols) (hb : bulk_Dl ds ≤ 1048576) :
    Calls Try.prog 54 #[u, .string name, v] w fun e w' => ∃ u, e = .returned u ∧ Own oI w.heap.size w'.heap.size w' [u] (closure ds name cols) ∧ Below w.heap.size w w' := by
  obtain ⟨a, n, c, hv⟩ := rS_form h
  simp at hv; subst hv
  obtain ⟨b, m, d, hv⟩ := rI_form h'
  simp at hv; subst hv
  exact closure_impl a n c ds name b m d cols w (rS_sl h) (rI_ints h') (fun f hf => (bulk_Dl_mem hb f hf).2)
theorem closure_len (ds : List DDp) (name : ByteArray) (cols : List Int) : (closure ds name cols).length ≤ 3 := bitsTo_len _ 3

end Go.Proofs.Ytbkoddikfpkocaa

/- Contracts: whether columns are a key. -/
namespace Go.Proofs.Ytbkoddikfpkocaa
open Go.RowKit
set_option linter.unusedVariables false
set_option linter.unusedSimpArgs false
set_option synthInstance.maxSize 2000
set_option synthInstance.maxHeartbeats 400000

set_option maxHeartbeats 1000000 in
theorem covers_any (a : Option Addr) (n cap : Nat) (xs : List Int) (N : Nat) (w : World) (h : Ints w a n xs) (hN : N ≤ 1000000) :
    Calls Try.prog 142 #[.slice a n cap, .int .i64 N] w fun e w' => e = .returned (.bool (coverB xs N)) ∧ w = w' := by
  have HV : Hid (coverB xs N = coverFrom xs N (N - 0) 0) := rfl
  have hb0 : Below w.heap.size w w := Below.refl _ _
  go_enter Try.func142, Try.ntmps142
  go_wp2_with fail
  go_loopw [5] (fun k wr => ∃ j : Nat, j ≤ N ∧ k = .int .i64 j ∧ Hid (coverB xs N = coverFrom xs N (N - j) j) ∧ w = wr) (fun k _ => N - (intOf k).toNat)
  case atStart => exact ⟨0, Nat.zero_le _, rfl, HV.out, rfl⟩
  case round =>
    obtain ⟨j, hj, rfl, hE, rfl⟩ := hrel
    by_cases hlt : j < N
    · have HA := Lib.hid (hE.out.trans (cover_at hlt))
      have hcc := l7Has_any a n cap xs (j : Int) w h
      obtain ⟨t, ht⟩ : ∃ t, has xs (j : Int) = t := ⟨_, rfl⟩
      rw [ht] at HA hcc
      have HC := Lib.hid hcc
      clear hE HV hcc ht h
      cases t with
      | true =>
        have HE := Lib.hid (show coverB xs N = coverFrom xs N (N - (j + 1)) (j + 1) by rw [HA.out]; rfl)
        go_wp2_with fail
        refine (HC.out).mono ?_
        rintro e w' ⟨rfl, rfl⟩
        go_wp2_with fail
        go_roundw
        case rel => exact ⟨j + 1, by omega, by go_num, HE.out, trivial⟩
        case measure => simp [intOf]; omega
      | false =>
        have HE := Lib.hid (show coverB xs N = false by rw [HA.out]; rfl)
        go_wp2_with fail
        refine (HC.out).mono ?_
        rintro e w' ⟨rfl, rfl⟩
        go_wp2_with fail
        go_ret
        exact ⟨ret_bool HE.out.symm, rfl⟩
    · have HE := Lib.hid (hE.out.trans (cover_end (by omega)))
      clear hE HV h
      go_wp2_with fail
      go_ret
      exact ⟨ret_bool HE.out.symm, rfl⟩

set_option maxHeartbeats 2000000 in
theorem isKey_impl (u v : Value) (cs : List Value) (ds : List DDp) (t : DT) (cols : List Int) (w : World) (h : rDl.rep w [u] ds) (ht : rT.rep w cs t) (h' : rI.rep w [v] cols) (hb : bulk_Dl ds ≤ 1048576) :
    Calls Try.prog 70 #[u, .agg cs.toArray, v] w fun e w' => e = .returned (.bool (isKey ds t cols)) ∧ Below w.heap.size w w' := by
  obtain ⟨a, n, c, hv⟩ := rS_form h
  simp at hv; subst hv
  obtain ⟨b, m, d, hv⟩ := rI_form h'
  simp at hv; subst hv
  obtain ⟨ub, un, uc, rfl, hs, hi, g1⟩ := rT_open ht
  have HVT := Lib.hid (fun W (hW : Below w.heap.size w W) => validT_impl _ t W (rT.mono ht hW))
  have HCL := Lib.hid (fun name W (hW : Below w.heap.size w W) => closure_impl' _ _ ds name cols W (rDl.mono h hW) (rI.mono h' hW) hb)
  have i0 := rI_ints h'
  obtain ⟨s, ar, rows⟩ := t
  simp only at hs hi g1 HVT
  obtain ⟨l, hl⟩ : ∃ l, closure ds s cols = l := ⟨_, rfl⟩
  have HK : Hid (isKey ds (s, ar, rows) cols = ((colsB ar cols && validT (s, ar, rows)) && coverB l ar.toNat)) := Lib.hid (by rw [← hl]; rfl)
  have HAR : Hid (validT (s, ar, rows) = true → 1 ≤ ar ∧ ar ≤ 3) := Lib.hid (fun h => (TOk.of h).ar)
  obtain ⟨V, hV⟩ : ∃ V, validT (s, ar, rows) = V := ⟨_, rfl⟩
  rw [hV] at HVT HK HAR
  have HL := Lib.hid hl
  clear hV hl h ht g1 hs hi
  have hb0 : Below w.heap.size w w := Below.refl _ _
  go_enter Try.func70, Try.ntmps70
  obtain ⟨w1, hw1⟩ : ∃ W, W = w.alloc (.cells #[.string s, .int .i64 ar, .slice ub un uc] 34) := ⟨_, rfl⟩
  have z1 : Below w.heap.size w w1 := by rw [hw1]; exact (Below.refl _ _).alloc (Nat.le_refl _) _
  have s1 : w1.heap.size = w.heap.size + 1 := by rw [hw1]; simp
  have hb1 := on hb0 z1
  have t_0 : w1.cell? ⟨w.heap.size, 0, none⟩ = some (.string s) := by rw [hw1]; exact box_cell (Below.refl _ _) rfl
  have t_1 : w1.cell? ⟨w.heap.size, 1, none⟩ = some (.int .i64 ar) := by rw [hw1]; exact box_cell (Below.refl _ _) rfl
  have t_2 : w1.cell? ⟨w.heap.size, 2, none⟩ = some (.slice ub un uc) := by rw [hw1]; exact box_cell (Below.refl _ _) rfl
  have raw1_t_0 := t_0
  have raw1_t_1 := t_1
  have raw1_t_2 := t_2
  rw [hw1] at raw1_t_0 raw1_t_1 raw1_t_2
  go_wp2_with fail
  rw [← hw1]
  clear hw1
  clear raw1_t_0 raw1_t_1 raw1_t_2
  refine (HVT.out _ hb1).mono ?_
  rintro e w9 ⟨rfl, z9⟩
  have s2 := z9.size
  have hb2 := on hb1 z9
  replace t_0 := (z9.cell (p := ⟨w.heap.size, 0, none⟩) (by simp only []; omega)).trans t_0
  replace t_1 := (z9.cell (p := ⟨w.heap.size, 1, none⟩) (by simp only []; omega)).trans t_1
  replace t_2 := (z9.cell (p := ⟨w.heap.size, 2, none⟩) (by simp only []; omega)).trans t_2
  cases V with
  | false =>
    go_wp2_with fail
    go_wp2_with fail
    go_ret
    exact ⟨ret_bool (by rw [HK.out]; simp), hb2⟩
  | true =>
    have hA := HAR.out rfl
    obtain ⟨N, rfl⟩ : ∃ N : Nat, ar = (N : Int) := ⟨ar.toNat, by omega⟩
    have hco := columnsOk_any b m d cols (N : Int) w9 (i0.below hb2) ⟨by omega, by omega⟩ (by omega)
    obtain ⟨q, hq⟩ : ∃ q, colsB (N : Int) cols = q := ⟨_, rfl⟩
    rw [hq] at hco HK
    rw [Int.toNat_natCast] at HK
    have HCO := Lib.hid hco
    have hN3 : N ≤ 3 := by omega
    clear hco hq HVT HAR hA
    go_wp2_with fail
    refine HCO.out.mono ?_
    rintro e w' ⟨rfl, rfl⟩
    cases q with
    | false =>
      go_wp2_with fail
      go_wp2_with fail
      go_ret
      exact ⟨ret_bool (by rw [HK.out]; simp), hb2⟩
    | true =>
      have HK2 : Hid (isKey ds (s, (N : Int), rows) cols = coverFrom l N (N - 0) 0) := Lib.hid (by rw [HK.out]; rfl)
      go_wp2_with fail
      refine (HCL.out s _ hb2).mono ?_
      rintro e w10 ⟨x, rfl, o1, z10⟩
      rw [HL.out] at o1
      obtain ⟨xb, xn, xc, rfl⟩ := oI_form1 o1
      have s3 := z10.size
      have hb3 := on hb2 z10
      replace t_0 := (z10.cell (p := ⟨w.heap.size, 0, none⟩) (by simp only []; omega)).trans t_0
      replace t_1 := (z10.cell (p := ⟨w.heap.size, 1, none⟩) (by simp only []; omega)).trans t_1
      replace t_2 := (z10.cell (p := ⟨w.heap.size, 2, none⟩) (by simp only []; omega)).trans t_2
      have i1 := rI_ints (o1.rd reads_I)
      clear HK HCO HCL o1
      go_wp2_with fail
      go_loopw [8] (fun k wr => ∃ j : Nat, j ≤ N ∧ k = .int .i64 j ∧ Hid (isKey ds (s, (N : Int), rows) cols = coverFrom l N (N - j) j) ∧ w10 = wr) (fun k _ => N - (intOf k).toNat)
      case atStart => exact ⟨0, Nat.zero_le _, rfl, HK2.out, rfl⟩
      case round =>
        obtain ⟨j, hj, rfl, hE, rfl⟩ := hrel
        by_cases hlt : j < N
        · have HA := Lib.hid (hE.out.trans (cover_at hlt))
          have hcc := contains_any xb xn xc l (j : Int) w10 i1
          obtain ⟨t, ht⟩ : ∃ t, has l (j : Int) = t := ⟨_, rfl⟩
          rw [ht] at HA hcc
          have HC := Lib.hid hcc
          clear hE HK2 hcc ht i1
          cases t with
          | true =>
            have HE := Lib.hid (show isKey ds (s, (N : Int), rows) cols = coverFrom l N (N - (j + 1)) (j + 1) by rw [HA.out]; rfl)
            go_wp2_with fail
            refine (HC.out).mono ?_
            rintro e w' ⟨rfl, rfl⟩
            go_wp2_with fail
            go_roundw
            case rel => exact ⟨j + 1, by omega, by go_num, HE.out, trivial⟩
            case measure => simp [intOf]; omega
          | false =>
            have HE := Lib.hid (show isKey ds (s, (N : Int), rows) cols = false by rw [HA.out]; rfl)
            go_wp2_with fail
            refine (HC.out).mono ?_
            rintro e w' ⟨rfl, rfl⟩
            go_wp2_with fail
            go_ret
            exact ⟨ret_bool HE.out.symm, hb3⟩
        · have HE := Lib.hid (hE.out.trans (cover_end (by omega)))
          clear hE HK2 i1
          go_wp2_with fail
          go_ret
          exact ⟨ret_bool HE.out.symm, hb3⟩

end Go.Proofs.Ytbkoddikfpkocaa

/- Contracts: whether columns are a key, by the reference. -/
namespace Go.Proofs.Ytbkoddikfpkocaa
open Go.RowKit
set_option linter.unusedVariables false
set_option linter.unusedSimpArgs false
set_option synthInstance.maxSize 2000
set_option synthInstance.maxHeartbeats 400000

set_option maxHeartbeats 2000000 in
theorem isKey_spec (u v : Value) (cs : List Value) (ds : List DDp) (t : DT) (cols : List Int) (w : World) (h : rDl.rep w [u] ds) (ht : rT.rep w cs t) (h' : rI.rep w [v] cols) :
    Calls Try.prog 69 #[u, .agg cs.toArray, v] w fun e w' => e = .returned (.bool (isKey ds t cols)) ∧ Below w.heap.size w w' := by
  obtain ⟨a, n, c, hv⟩ := rS_form h
  simp at hv; subst hv
  obtain ⟨b, m, d, hv⟩ := rI_form h'
  simp at hv; subst hv
  obtain ⟨ub, un, uc, rfl, hs, hi, g1⟩ := rT_open ht
  have i0 := rI_ints h'
  have HVT := Lib.hid (fun W (hW : Below w.heap.size w W) => l10Cols_any _ t b m d cols W (rT.mono ht hW) (i0.below hW))
  have HCL := Lib.hid (fun name W (hW : Below w.heap.size w W) => closure_spec' _ _ ds name cols W (rDl.mono h hW) (rI.mono h' hW))
  obtain ⟨s, ar, rows⟩ := t
  simp only at hs hi g1 HVT
  obtain ⟨l, hl⟩ : ∃ l, closure ds s cols = l := ⟨_, rfl⟩
  have HK : Hid (isKey ds (s, ar, rows) cols = (colsT (s, ar, rows) cols && coverB l ar.toNat)) := Lib.hid (by rw [← hl]; rfl)
  have HAR : Hid (colsT (s, ar, rows) cols = true → 1 ≤ ar ∧ ar ≤ 3) := Lib.hid (fun h => by rw [colsT, Bool.and_eq_true] at h; exact (TOk.of h.2).ar)
  obtain ⟨V, hV⟩ : ∃ V, colsT (s, ar, rows) cols = V := ⟨_, rfl⟩
  simp only [hV] at HVT
  rw [hV] at HK HAR
  have hcl := fun W (hW : Below w.heap.size w W) => HCL.out s W hW
  simp only [hl] at hcl
  have HC2 := Lib.hid hcl
  clear hV hl h ht g1 hs hi hcl HCL
  have hb0 : Below w.heap.size w w := Below.refl _ _
  go_enter Try.func69, Try.ntmps69
  obtain ⟨w1, hw1⟩ : ∃ W, W = w.alloc (.cells #[.string s, .int .i64 ar, .slice ub un uc] 34) := ⟨_, rfl⟩
  have z1 : Below w.heap.size w w1 := by rw [hw1]; exact (Below.refl _ _).alloc (Nat.le_refl _) _
  have s1 : w1.heap.size = w.heap.size + 1 := by rw [hw1]; simp
  have hb1 := on hb0 z1
  have t_0 : w1.cell? ⟨w.heap.size, 0, none⟩ = some (.string s) := by rw [hw1]; exact box_cell (Below.refl _ _) rfl
  have t_1 : w1.cell? ⟨w.heap.size, 1, none⟩ = some (.int .i64 ar) := by rw [hw1]; exact box_cell (Below.refl _ _) rfl
  have t_2 : w1.cell? ⟨w.heap.size, 2, none⟩ = some (.slice ub un uc) := by rw [hw1]; exact box_cell (Below.refl _ _) rfl
  have raw1_t_0 := t_0
  have raw1_t_1 := t_1
  have raw1_t_2 := t_2
  rw [hw1] at raw1_t_0 raw1_t_1 raw1_t_2
  cases V with
  | false =>
    go_wp2_with fail
    rw [← hw1]
    clear hw1
    clear raw1_t_0 raw1_t_1 raw1_t_2
    have hbd := hb1.drew
    refine wp_region_noPanic ?_
    refine wp_region_held_drew (S := (fun W => W.cell? ⟨w.heap.size, 0, none⟩ = some (.string s) ∧ W.cell? ⟨w.heap.size, 1, none⟩ = some (.int .i64 ar) ∧ W.cell? ⟨w.heap.size, 2, none⟩ = some (.slice ub un uc))) (by kernel_rfl) ?hS (fun hHeld => ?_)
    case hS => exact ⟨t_0, t_1, t_2⟩
    refine wpAnyH_take (i := 0) (v := ?v0_2) rfl (by kernel_rfl) (by kernel_rfl) (by kernel_rfl) (fun _ _ _ h => h) (Or.inl ⟨by rfl, ?hy0_2⟩) (by assumption) ?rest0_2
    case hy0_2 => intro w hSw; (try dsimp only at hSw); go_simp; (try with_reducible rfl)
    try simp only [Act.put, List.getElem_toArray, List.getElem_cons_succ, List.getElem_cons_zero, List.setIfInBounds_toArray, List.set_cons_zero, List.set_cons_succ]
    refine wpAnyH_take (i := 1) (v := ?v1_3) rfl (by kernel_rfl) (by kernel_rfl) (by kernel_rfl) (fun _ _ _ h => h) (Or.inl ⟨by rfl, ?hy1_3⟩) (by assumption) ?rest1_3
    case hy1_3 => intro w hSw; (try dsimp only at hSw); go_simp; (try with_reducible rfl)
    try simp only [Act.put, List.getElem_toArray, List.getElem_cons_succ, List.getElem_cons_zero, List.setIfInBounds_toArray, List.set_cons_zero, List.set_cons_succ]
    refine wpAnyH_ready (rs := [2]) (by kernel_rfl) (by simp) ?_
    refine AllReadyH.cons rfl (fun K hK => ?_) AllReadyH.nil
    go_simp; (refine (HVT.out _ hbd).mono ?_); rintro e wA ⟨rfl, zA⟩; replace zA : Below w1.heap.size w1 wA := on (Below.refl _ _).drew zA; have sA := zA.size; have hbA := on hb1 zA; have hSA := (⟨(zA.cell (p := ⟨w.heap.size, 0, none⟩) (by simp only []; omega)).trans t_0, (zA.cell (p := ⟨w.heap.size, 1, none⟩) (by simp only []; omega)).trans t_1, (zA.cell (p := ⟨w.heap.size, 2, none⟩) (by simp only []; omega)).trans t_2⟩ : (fun W => W.cell? ⟨w.heap.size, 0, none⟩ = some (.string s) ∧ W.cell? ⟨w.heap.size, 1, none⟩ = some (.int .i64 ar) ∧ W.cell? ⟨w.heap.size, 2, none⟩ = some (.slice ub un uc)) wA)
    refine hK.out _ _ ?_ (fun hHeld => ?_)
    · exact hSA
    clear hK K
    try simp only [Act.put, List.setIfInBounds_toArray, List.set_cons_zero, List.set_cons_succ]
    refine wpAnyH_take (i := 3) (v := ?v3_4) rfl (by kernel_rfl) (by kernel_rfl) (by kernel_rfl) (fun _ _ _ h => h) (Or.inl ⟨by rfl, ?hy3_4⟩) (by assumption) ?rest3_4
    case hy3_4 => intro w hSw; (try dsimp only at hSw); go_simp; (try with_reducible rfl)
    try simp only [Act.put, List.getElem_toArray, List.getElem_cons_succ, List.getElem_cons_zero, List.setIfInBounds_toArray, List.set_cons_zero, List.set_cons_succ]
    refine wpAnyH_take (i := 4) (v := undef) rfl (by kernel_rfl) (by kernel_rfl) (by kernel_rfl) (fun _ _ _ h => h) (Or.inr ⟨by rfl, rfl⟩) (by assumption) ?_
    try simp only [Act.put, List.getElem_toArray, List.getElem_cons_succ, List.getElem_cons_zero, List.setIfInBounds_toArray, List.set_cons_zero, List.set_cons_succ]
    refine wpAnyH_take (i := 5) (v := undef) rfl (by kernel_rfl) (by kernel_rfl) (by kernel_rfl) (fun _ _ _ h => h) (Or.inr ⟨by rfl, rfl⟩) (by assumption) ?_
    try simp only [Act.put, List.getElem_toArray, List.getElem_cons_succ, List.getElem_cons_zero, List.setIfInBounds_toArray, List.set_cons_zero, List.set_cons_succ]
    refine wpAnyH_take (i := 6) (v := undef) rfl (by kernel_rfl) (by kernel_rfl) (by kernel_rfl) (fun _ _ _ h => h) (Or.inr ⟨by rfl, rfl⟩) (by assumption) ?_
    try simp only [Act.put, List.getElem_toArray, List.getElem_cons_succ, List.getElem_cons_zero, List.setIfInBounds_toArray, List.set_cons_zero, List.set_cons_succ]
    refine wpAnyH_take (i := 7) (v := undef) rfl (by kernel_rfl) (by kernel_rfl) (by kernel_rfl) (fun _ _ _ h => h) (Or.inr ⟨by rfl, rfl⟩) (by assumption) ?_
    try simp only [Act.put, List.getElem_toArray, List.getElem_cons_succ, List.getElem_cons_zero, List.setIfInBounds_toArray, List.set_cons_zero, List.set_cons_succ]
    refine wpAnyH_take (i := 8) (v := undef) rfl (by kernel_rfl) (by kernel_rfl) (by kernel_rfl) (fun _ _ _ h => h) (Or.inr ⟨by rfl, rfl⟩) (by assumption) ?_
    try simp only [Act.put, List.getElem_toArray, List.getElem_cons_succ, List.getElem_cons_zero, List.setIfInBounds_toArray, List.set_cons_zero, List.set_cons_succ]
    refine wpAnyH_take (i := 9) (v := undef) rfl (by kernel_rfl) (by kernel_rfl) (by kernel_rfl) (fun _ _ _ h => h) (Or.inr ⟨by rfl, rfl⟩) (by assumption) ?_
    try simp only [Act.put, List.getElem_toArray, List.getElem_cons_succ, List.getElem_cons_zero, List.setIfInBounds_toArray, List.set_cons_zero, List.set_cons_succ]
    refine wpAnyH_take (i := 10) (v := undef) rfl (by kernel_rfl) (by kernel_rfl) (by kernel_rfl) (fun _ _ _ h => h) (Or.inr ⟨by rfl, rfl⟩) (by assumption) ?_
    try simp only [Act.put, List.getElem_toArray, List.getElem_cons_succ, List.getElem_cons_zero, List.setIfInBounds_toArray, List.set_cons_zero, List.set_cons_succ]
    refine wpAnyH_take (i := 11) (v := undef) rfl (by kernel_rfl) (by kernel_rfl) (by kernel_rfl) (fun _ _ _ h => h) (Or.inr ⟨by rfl, rfl⟩) (by assumption) ?_
    try simp only [Act.put, List.getElem_toArray, List.getElem_cons_succ, List.getElem_cons_zero, List.setIfInBounds_toArray, List.set_cons_zero, List.set_cons_succ]
    refine wpAnyH_take (i := 12) (v := ?v12_5) rfl (by kernel_rfl) (by kernel_rfl) (by kernel_rfl) (fun _ _ _ h => h) (Or.inl ⟨by rfl, ?hy12_5⟩) (by assumption) ?rest12_5
    case hy12_5 => intro w hSw; (try dsimp only at hSw); go_simp; (try with_reducible rfl)
    try simp only [Act.put, List.getElem_toArray, List.getElem_cons_succ, List.getElem_cons_zero, List.setIfInBounds_toArray, List.set_cons_zero, List.set_cons_succ]
    refine wpAnyH_take (i := 13) (v := ?v13_6) rfl (by kernel_rfl) (by kernel_rfl) (by kernel_rfl) (fun _ _ _ h => h) (Or.inl ⟨by rfl, ?hy13_6⟩) (by assumption) ?rest13_6
    case hy13_6 => intro w hSw; (try dsimp only at hSw); go_simp; (try with_reducible rfl)
    try simp only [Act.put, List.getElem_toArray, List.getElem_cons_succ, List.getElem_cons_zero, List.setIfInBounds_toArray, List.set_cons_zero, List.set_cons_succ]
    refine wpAnyH_done (by kernel_rfl) ?_ _
    refine NoPanic.normal ?_
    go_wp2_with fail
    go_ret
    exact ⟨ret_bool (by rw [HK.out]; rfl), hbA⟩
  | true =>
    have hA := HAR.out rfl
    obtain ⟨N, rfl⟩ : ∃ N : Nat, ar = (N : Int) := ⟨ar.toNat, by omega⟩
    rw [Int.toNat_natCast] at HK
    have hN3 : N ≤ 3 := by omega
    clear HAR hA
    obtain ⟨y, hy⟩ : ∃ y, coverB l N = y := ⟨_, rfl⟩
    rw [hy] at HK
    have HY := Lib.hid hy
    clear hy
    go_wp2_with fail
    rw [← hw1]
    clear hw1
    clear raw1_t_0 raw1_t_1 raw1_t_2
    have hbd := hb1.drew
    refine wp_region_noPanic ?_
    refine wp_region_held_drew (S := (fun W => W.cell? ⟨w.heap.size, 0, none⟩ = some (.string s) ∧ W.cell? ⟨w.heap.size, 1, none⟩ = some (.int .i64 (N : Int)) ∧ W.cell? ⟨w.heap.size, 2, none⟩ = some (.slice ub un uc))) (by kernel_rfl) ?hS (fun hHeld => ?_)
    case hS => exact ⟨t_0, t_1, t_2⟩
    refine wpAnyH_take (i := 0) (v := ?v0_7) rfl (by kernel_rfl) (by kernel_rfl) (by kernel_rfl) (fun _ _ _ h => h) (Or.inl ⟨by rfl, ?hy0_7⟩) (by assumption) ?rest0_7
    case hy0_7 => intro w hSw; (try dsimp only at hSw); go_simp; (try with_reducible rfl)
    try simp only [Act.put, List.getElem_toArray, List.getElem_cons_succ, List.getElem_cons_zero, List.setIfInBounds_toArray, List.set_cons_zero, List.set_cons_succ]
    refine wpAnyH_take (i := 1) (v := ?v1_8) rfl (by kernel_rfl) (by kernel_rfl) (by kernel_rfl) (fun _ _ _ h => h) (Or.inl ⟨by rfl, ?hy1_8⟩) (by assumption) ?rest1_8
    case hy1_8 => intro w hSw; (try dsimp only at hSw); go_simp; (try with_reducible rfl)
    try simp only [Act.put, List.getElem_toArray, List.getElem_cons_succ, List.getElem_cons_zero, List.setIfInBounds_toArray, List.set_cons_zero, List.set_cons_succ]
    refine wpAnyH_ready (rs := [2]) (by kernel_rfl) (by simp) ?_
    refine AllReadyH.cons rfl (fun K hK => ?_) AllReadyH.nil
    go_simp; (refine (HVT.out _ hbd).mono ?_); rintro e wA ⟨rfl, zA⟩; replace zA : Below w1.heap.size w1 wA := on (Below.refl _ _).drew zA; have sA := zA.size; have hbA := on hb1 zA; have hSA := (⟨(zA.cell (p := ⟨w.heap.size, 0, none⟩) (by simp only []; omega)).trans t_0, (zA.cell (p := ⟨w.heap.size, 1, none⟩) (by simp only []; omega)).trans t_1, (zA.cell (p := ⟨w.heap.size, 2, none⟩) (by simp only []; omega)).trans t_2⟩ : (fun W => W.cell? ⟨w.heap.size, 0, none⟩ = some (.string s) ∧ W.cell? ⟨w.heap.size, 1, none⟩ = some (.int .i64 (N : Int)) ∧ W.cell? ⟨w.heap.size, 2, none⟩ = some (.slice ub un uc)) wA)
    refine hK.out _ _ ?_ (fun hHeld => ?_)
    · exact hSA
    clear hK K
    try simp only [Act.put, List.setIfInBounds_toArray, List.set_cons_zero, List.set_cons_succ]
    refine wpAnyH_take (i := 3) (v := ?v3_9) rfl (by kernel_rfl) (by kernel_rfl) (by kernel_rfl) (fun _ _ _ h => h) (Or.inl ⟨by rfl, ?hy3_9⟩) (by assumption) ?rest3_9
    case hy3_9 => intro w hSw; (try dsimp only at hSw); go_simp; (try with_reducible rfl)
    try simp only [Act.put, List.getElem_toArray, List.getElem_cons_succ, List.getElem_cons_zero, List.setIfInBounds_toArray, List.set_cons_zero, List.set_cons_succ]
    refine wpAnyH_take (i := 4) (v := ?v4_10) rfl (by kernel_rfl) (by kernel_rfl) (by kernel_rfl) (fun _ _ _ h => h) (Or.inl ⟨by rfl, ?hy4_10⟩) (by assumption) ?rest4_10
    case hy4_10 => intro w hSw; (try dsimp only at hSw); go_simp; (try with_reducible rfl)
    try simp only [Act.put, List.getElem_toArray, List.getElem_cons_succ, List.getElem_cons_zero, List.setIfInBounds_toArray, List.set_cons_zero, List.set_cons_succ]
    refine wpAnyH_take (i := 5) (v := ?v5_11) rfl (by kernel_rfl) (by kernel_rfl) (by kernel_rfl) (fun _ _ _ h => h) (Or.inl ⟨by rfl, ?hy5_11⟩) (by assumption) ?rest5_11
    case hy5_11 => intro w hSw; (try dsimp only at hSw); go_simp; (try with_reducible rfl)
    try simp only [Act.put, List.getElem_toArray, List.getElem_cons_succ, List.getElem_cons_zero, List.setIfInBounds_toArray, List.set_cons_zero, List.set_cons_succ]
    refine wpAnyH_take (i := 6) (v := ?v6_12) rfl (by kernel_rfl) (by kernel_rfl) (by kernel_rfl) (fun _ _ _ h => h) (Or.inl ⟨by rfl, ?hy6_12⟩) (by assumption) ?rest6_12
    case hy6_12 => intro w hSw; (try dsimp only at hSw); go_simp; (try with_reducible rfl)
    try simp only [Act.put, List.getElem_toArray, List.getElem_cons_succ, List.getElem_cons_zero, List.setIfInBounds_toArray, List.set_cons_zero, List.set_cons_succ]
    refine wpAnyH_take (i := 7) (v := ?v7_13) rfl (by kernel_rfl) (by kernel_rfl) (by kernel_rfl) (fun _ _ _ h => h) (Or.inl ⟨by rfl, ?hy7_13⟩) (by assumption) ?rest7_13
    case hy7_13 => intro w hSw; (try dsimp only at hSw); go_simp; (try with_reducible rfl)
    try simp only [Act.put, List.getElem_toArray, List.getElem_cons_succ, List.getElem_cons_zero, List.setIfInBounds_toArray, List.set_cons_zero, List.set_cons_succ]
    refine wpAnyH_take (i := 9) (v := ?v9_14) rfl (by kernel_rfl) (by kernel_rfl) (by kernel_rfl) (fun _ _ _ h => h) (Or.inl ⟨by rfl, ?hy9_14⟩) (by assumption) ?rest9_14
    case hy9_14 => intro w hSw; (try dsimp only at hSw); go_simp; (try with_reducible rfl)
    try simp only [Act.put, List.getElem_toArray, List.getElem_cons_succ, List.getElem_cons_zero, List.setIfInBounds_toArray, List.set_cons_zero, List.set_cons_succ]
    refine wpAnyH_take (i := 10) (v := ?v10_15) rfl (by kernel_rfl) (by kernel_rfl) (by kernel_rfl) (fun _ _ _ h => h) (Or.inl ⟨by rfl, ?hy10_15⟩) (by assumption) ?rest10_15
    case hy10_15 => intro w hSw; (try dsimp only at hSw); go_simp; (try with_reducible rfl)
    try simp only [Act.put, List.getElem_toArray, List.getElem_cons_succ, List.getElem_cons_zero, List.setIfInBounds_toArray, List.set_cons_zero, List.set_cons_succ]
    refine wpAnyH_ready (rs := [8]) (by kernel_rfl) (by simp) ?_
    refine AllReadyH.cons rfl (fun K hK => ?_) AllReadyH.nil
    go_simp; (refine (HC2.out _ hbA).mono ?_); rintro e wB ⟨x, rfl, o1, zB⟩; obtain ⟨xb, xn, xc, rfl⟩ := oI_form1 o1; have sB := zB.size; have hbB := on hbA zB; have hSB := (⟨(zB.cell (p := ⟨w.heap.size, 0, none⟩) (by simp only []; omega)).trans hSA.1, (zB.cell (p := ⟨w.heap.size, 1, none⟩) (by simp only []; omega)).trans hSA.2.1, (zB.cell (p := ⟨w.heap.size, 2, none⟩) (by simp only []; omega)).trans hSA.2.2⟩ : (fun W => W.cell? ⟨w.heap.size, 0, none⟩ = some (.string s) ∧ W.cell? ⟨w.heap.size, 1, none⟩ = some (.int .i64 (N : Int)) ∧ W.cell? ⟨w.heap.size, 2, none⟩ = some (.slice ub un uc)) wB)
    refine hK.out _ _ ?_ (fun hHeld => ?_)
    · exact hSB
    clear hK K
    try simp only [Act.put, List.setIfInBounds_toArray, List.set_cons_zero, List.set_cons_succ]
    refine wpAnyH_ready (rs := [11]) (by kernel_rfl) (by simp) ?_
    refine AllReadyH.cons rfl (fun K hK => ?_) AllReadyH.nil
    go_simp; (refine (covers_any xb xn xc l N _ (rI_ints (o1.rd reads_I)) (by omega)).mono ?_); rintro e wC ⟨rfl, rfl⟩
    refine hK.out _ _ ?_ (fun hHeld => ?_)
    · exact hSB
    clear hK K
    try simp only [Act.put, List.setIfInBounds_toArray, List.set_cons_zero, List.set_cons_succ]
    refine wpAnyH_take (i := 12) (v := ?v12_16) rfl (by kernel_rfl) (by kernel_rfl) (by kernel_rfl) (fun _ _ _ h => h) (Or.inl ⟨by rfl, ?hy12_16⟩) (by assumption) ?rest12_16
    case hy12_16 => intro w hSw; (try dsimp only at hSw); go_simp; (try with_reducible rfl)
    try simp only [Act.put, List.getElem_toArray, List.getElem_cons_succ, List.getElem_cons_zero, List.setIfInBounds_toArray, List.set_cons_zero, List.set_cons_succ]
    refine wpAnyH_take (i := 13) (v := ?v13_17) rfl (by kernel_rfl) (by kernel_rfl) (by kernel_rfl) (fun _ _ _ h => h) (Or.inl ⟨by rfl, ?hy13_17⟩) (by assumption) ?rest13_17
    case hy13_17 => intro w hSw; (try dsimp only at hSw); go_simp; (try with_reducible rfl)
    try simp only [Act.put, List.getElem_toArray, List.getElem_cons_succ, List.getElem_cons_zero, List.setIfInBounds_toArray, List.set_cons_zero, List.set_cons_succ]
    refine wpAnyH_done (by kernel_rfl) ?_ _
    refine NoPanic.normal ?_
    go_wp2_with fail
    go_ret
    exact ⟨ret_bool (by rw [HK.out, ← HY.out]; rfl), hbB⟩

end Go.Proofs.Ytbkoddikfpkocaa

/- Contracts: the least keys, by the program. -/
namespace Go.Proofs.Ytbkoddikfpkocaa
open Go.RowKit
set_option linter.unusedVariables false
set_option linter.unusedSimpArgs false
set_option synthInstance.maxSize 2000
set_option synthInstance.maxHeartbeats 400000

def ints (ks : List Nat) : List Int := ks.map (fun (k : Nat) => (k : Int))
theorem ints_get {ks : List Nat} {j : Nat} {x : Int} (hj : j < ks.length) (h : (ints ks).getD j 0 = x) : ∃ k : Nat, x = (k : Int) ∧ ks[j]? = some k := by
  refine ⟨ks[j], ?_, List.getElem?_eq_getElem hj⟩
  rw [← h, List.getD_eq_getElem?_getD, ints, List.getElem?_map, List.getElem?_eq_getElem hj]; rfl
/-- The place of the first set within s, from place j on. -/
def subFrom (s j : Nat) : List Nat → Int
  | [] => -1
  | k :: t => if decide (k &&& s = k) then (j : Int) else subFrom s (j + 1) t
theorem subFrom_at {s j : Nat} {ks : List Nat} {k : Nat} (h : ks[j]? = some k) : subFrom s j (ks.drop j) = if decide (k &&& s = k) then (j : Int) else subFrom s (j + 1) (ks.drop (j + 1)) := by
  obtain ⟨h1, rfl⟩ := List.getElem?_eq_some_iff.1 h
  rw [List.drop_eq_getElem_cons h1]; rfl
theorem subFrom_end {s j : Nat} {ks : List Nat} (h : ks.length ≤ j) : subFrom s j (ks.drop j) = -1 := by
  rw [List.drop_eq_nil_of_le h]; rfl
theorem subFrom_all {s : Nat} : ∀ {ks : List Nat} {j : Nat}, decide (0 ≤ subFrom s j ks) = !ks.all (fun k => !decide (k &&& s = k))
  | [], j => by simp [subFrom]
  | k :: t, j => by
    unfold subFrom
    by_cases h : k &&& s = k
    · simp [h]
    · simp only [h, decide_false, Bool.false_eq_true, if_false, List.all_cons, Bool.not_false, Bool.true_and]; exact subFrom_all

theorem minFn_any (k s cb : Nat) (w : World) (hk : k < 1000) (hs : s < 1000) (hc : w.cell? ⟨cb, 0, none⟩ = some (.int .i64 (s : Int))) :
    Calls Try.prog 153 #[.int .i64 (k : Int), .pointer (some ⟨cb, 0, none⟩)] w fun e w' => e = .returned (.bool (decide (k &&& s = k))) ∧ w = w' := by
  have hb := bits_and_nat k s (by omega) (by omega)
  have HE : Hid ((((k &&& s : Nat) : Int) == (k : Int)) = decide (k &&& s = k)) := Lib.hid (by rw [Bool.eq_iff_iff, beq_iff_eq, decide_eq_true_eq]; omega)
  go_enter Try.func153, Try.ntmps153
  go_wp2_with fail
  go_ret
  exact ⟨ret_bool HE.out, rfl⟩
set_option maxHeartbeats 1000000 in
theorem minIdx_any (a : Option Addr) (n cap : Nat) (ks : List Nat) (s cb : Nat) (w : World) (h : Ints w a n (ints ks)) (h8 : ∀ k ∈ ks, k < 1000) (hs : s < 1000) (hcb : w.cell? ⟨cb, 0, none⟩ = some (.int .i64 (s : Int))) :
    Calls Try.prog 182 #[.slice a n cap, .func (.func 153) #[] #[.pointer (some ⟨cb, 0, none⟩)]] w fun e w' => e = .returned (.int .i64 (subFrom s 0 ks)) ∧ w = w' := by
  have hl := h.len
  have hn := h.small
  have hl2 : ks.length = n := by rw [← hl]; simp [ints]
  have HV : Hid (subFrom s 0 ks = subFrom s 0 (ks.drop 0)) := rfl
  have H8 := Lib.hid h8
  have HCB := Lib.hid hcb
  clear h8 hcb
  have hb0 : Below w.heap.size w w := Below.refl _ _
  go_enter Try.func182, Try.ntmps182
  go_wp2_with fail
  go_loopw [8] (fun k wr => ∃ j : Nat, j ≤ n ∧ k = .int .i64 j ∧ Hid (subFrom s 0 ks = subFrom s j (ks.drop j)) ∧ w = wr) (fun k _ => n - (intOf k).toNat)
  case atStart => exact ⟨0, Nat.zero_le _, rfl, HV.out, rfl⟩
  case round =>
    obtain ⟨j, hj, rfl, hE, rfl⟩ := hrel
    by_cases hlt : j < n
    · obtain ⟨b0, o0, x, rfl, hc, hx, _, _⟩ := h.get hlt
      obtain ⟨k, rfl, hk⟩ := ints_get (by omega) hx.out
      have c0_lt : b0 < w.heap.size := cell_lt hc
      have c0 : w.cell? ⟨b0, o0 + j, none⟩ = some (.int .i64 (k:Int)) := (hb0.cell (p := ⟨b0, o0 + j, none⟩) c0_lt).trans hc
      have HA := Lib.hid (hE.out.trans (subFrom_at hk))
      have hcall := minFn_any k s cb w (H8.out k (List.mem_of_getElem? hk)) hs HCB.out
      obtain ⟨t, ht⟩ : ∃ t, t = decide (k &&& s = k) := ⟨_, rfl⟩
      rw [← ht] at HA hcall
      have HC := Lib.hid hcall
      clear hE HV hl hl2 h hcall ht hx hc hk
      cases t with
      | false =>
        have HE := Lib.hid (show subFrom s 0 ks = subFrom s (j + 1) (ks.drop (j + 1)) by rw [HA.out]; rfl)
        go_wp2_with (go_at_call 153; refine HC.out.mono ?_; rintro e w' ⟨rfl, rfl⟩)
        go_roundw
        case rel => exact ⟨j + 1, by omega, by go_num, HE.out, trivial⟩
        case measure => simp [intOf]; omega
      | true =>
        have HE := Lib.hid (show subFrom s 0 ks = (j : Int) by rw [HA.out]; rfl)
        go_wp2_with (go_at_call 153; refine HC.out.mono ?_; rintro e w' ⟨rfl, rfl⟩)
        go_ret
        exact ⟨ret_int HE.out.symm, rfl⟩
    · have HE := Lib.hid (hE.out.trans (subFrom_end (by omega)))
      clear hE HV hl hl2 h
      go_wp2_with fail
      go_ret
      exact ⟨ret_int HE.out.symm, rfl⟩
theorem minHas_any (a : Option Addr) (n cap : Nat) (ks : List Nat) (s cb : Nat) (w : World) (h : Ints w a n (ints ks)) (h8 : ∀ k ∈ ks, k < 1000) (hs : s < 1000) (hcb : w.cell? ⟨cb, 0, none⟩ = some (.int .i64 (s : Int))) :
    Calls Try.prog 126 #[.slice a n cap, .func (.func 153) #[] #[.pointer (some ⟨cb, 0, none⟩)]] w fun e w' => e = .returned (.bool (!ks.all (fun k => !decide (k &&& s = k)))) ∧ w = w' := by
  have H := Lib.hid (subFrom_all (s := s) (ks := ks) (j := 0))
  have HC := Lib.hid (minIdx_any a n cap ks s cb w h h8 hs hcb)
  clear h h8 hcb
  go_enter Try.func126, Try.ntmps126
  go_wp2_with (go_at_call 182; refine HC.out.mono ?_; rintro e w' ⟨rfl, rfl⟩)
  go_ret
  exact ⟨ret_bool H.out, rfl⟩

def setsOf (ks : List Nat) : List (List Int) := ks.map (fun m => bitsTo m 3)
theorem setsOf_snoc (ks : List Nat) (s : Nat) : setsOf (ks ++ [s]) = setsOf ks ++ [bitsTo s 3] := by simp [setsOf]
theorem ints_snoc (ks : List Nat) (s : Nat) : ints (ks ++ [s]) = ints ks ++ [(s : Int)] := by simp [ints]
/-- The round's end: a cell of its own for the next number. -/
theorem two_next {LO cb : Nat} {W : World} {v u : Value} {xs : List (List Int)} {ys : List Int} (x : Value) (h : Two LO W.heap.size cb W v u xs ys) :
    Two LO (W.alloc (.cells #[x] 3)).heap.size W.heap.size (W.alloc (.cells #[x] 3)) v u xs ys ∧ (W.alloc (.cells #[x] 3)).cell? ⟨W.heap.size, 0, none⟩ = some x ∧ (W.alloc (.cells #[x] 3)).frozen? ⟨W.heap.size, 0, none⟩ = false := by
  have hb : Below W.heap.size W (W.alloc (.cells #[x] 3)) := (Below.refl _ _).alloc (Nat.le_refl _) _
  refine ⟨((h.below hb (Nat.le_refl _)).recb (.inl (Nat.le_refl _))).mono (by simp), box_cell (Below.refl _ _) rfl, box_frozen (Below.refl _ _)⟩

end Go.Proofs.Ytbkoddikfpkocaa

/- Contracts: the least keys, by the program (2). -/
namespace Go.Proofs.Ytbkoddikfpkocaa
open Go.RowKit
set_option linter.unusedVariables false
set_option linter.unusedSimpArgs false
set_option synthInstance.maxSize 2000
set_option synthInstance.maxHeartbeats 400000

set_option maxRecDepth 100000 in
set_option maxHeartbeats 4000000 in
theorem minKeys_impl (u0 : Value) (cs : List Value) (ds : List DDp) (t : DT) (w : World) (h : rDl.rep w [u0] ds) (ht : rT.rep w cs t) (hb : bulk_Dl ds ≤ 1048576) :
    Calls Try.prog 82 #[u0, .agg cs.toArray] w fun e w' => ∃ u, e = .returned u ∧ Own oII w.heap.size w'.heap.size w' [u] (minKeys ds t) ∧ Below w.heap.size w w' := by
  obtain ⟨a, n, c, hv⟩ := rS_form h
  simp at hv; subst hv
  have HVT := Lib.hid (fun W (hW : Below w.heap.size w W) => validT_impl _ t W (rT.mono ht hW))
  have HIK := Lib.hid (fun (v : Value) (xs : List Int) W (hW : Below w.heap.size w W) (hx : rI.rep W [v] xs) => isKey_impl _ v cs ds t xs W (rDl.mono h hW) (rT.mono ht hW) hx hb)
  obtain ⟨ub, un, uc, rfl, hs, hi, g1⟩ := rT_open ht
  obtain ⟨key, hkey⟩ : ∃ key, key = keyM ds t := ⟨_, rfl⟩
  have HMK : Hid (minKeys ds t = if validT t then setsOf (minTo key (2 ^ t.2.1.toNat)) else []) := Lib.hid (by rw [hkey]; rfl)
  have HKE : Hid (∀ m, isKey ds t (bitsTo m 3) = key m) := Lib.hid (fun m => by rw [hkey]; rfl)
  have HAR : Hid (validT t = true → 1 ≤ t.2.1 ∧ t.2.1 ≤ 3) := Lib.hid (fun h => (TOk.of h).ar)
  obtain ⟨mk, hmk⟩ : ∃ mk, minKeys ds t = mk := ⟨_, rfl⟩
  rw [hmk] at HMK ⊢
  have HIK2 := Lib.hid (fun (v : Value) (m : Nat) W (hW : Below w.heap.size w W) (hx : rI.rep W [v] (bitsTo m 3)) => by have h9 := HIK.out v _ W hW hx; rw [HKE.out m] at h9; exact h9)
  obtain ⟨s, ar, rows⟩ := t
  simp only at hs hi g1 HVT HMK HAR HIK2
  obtain ⟨V, hV⟩ : ∃ V, validT (s, ar, rows) = V := ⟨_, rfl⟩
  rw [hV] at HVT HMK HAR
  clear hV h ht g1 hs hi hkey hmk HIK HKE
  have hb0 : Below w.heap.size w w := Below.refl _ _
  go_enter Try.func82, Try.ntmps82
  obtain ⟨w1, hw1⟩ : ∃ W, W = w.alloc (.cells #[.string s, .int .i64 ar, .slice ub un uc] 34) := ⟨_, rfl⟩
  have z1 : Below w.heap.size w w1 := by rw [hw1]; exact (Below.refl _ _).alloc (Nat.le_refl _) _
  have s1 : w1.heap.size = w.heap.size + 1 := by rw [hw1]; simp
  have hb1 := on hb0 z1
  have t_0 : w1.cell? ⟨w.heap.size, 0, none⟩ = some (.string s) := by rw [hw1]; exact box_cell (Below.refl _ _) rfl
  have t_1 : w1.cell? ⟨w.heap.size, 1, none⟩ = some (.int .i64 ar) := by rw [hw1]; exact box_cell (Below.refl _ _) rfl
  have t_2 : w1.cell? ⟨w.heap.size, 2, none⟩ = some (.slice ub un uc) := by rw [hw1]; exact box_cell (Below.refl _ _) rfl
  have raw1_t_0 := t_0
  have raw1_t_1 := t_1
  have raw1_t_2 := t_2
  rw [hw1] at raw1_t_0 raw1_t_1 raw1_t_2
  go_wp2_with fail
  rw [← hw1]
  clear hw1
  clear raw1_t_0 raw1_t_1 raw1_t_2
  refine (HVT.out _ hb1).mono ?_
  rintro e w9 ⟨rfl, z9⟩
  have s2 := z9.size
  have hb2 := on hb1 z9
  replace t_0 := (z9.cell (p := ⟨w.heap.size, 0, none⟩) (by simp only []; omega)).trans t_0
  replace t_1 := (z9.cell (p := ⟨w.heap.size, 1, none⟩) (by simp only []; omega)).trans t_1
  replace t_2 := (z9.cell (p := ⟨w.heap.size, 2, none⟩) (by simp only []; omega)).trans t_2
  cases V with
  | false =>
    have HE : Hid (mk = []) := Lib.hid (by rw [HMK.out]; rfl)
    go_wp2_with fail
    go_ret
    exact ⟨_, rfl, by rw [HE.out]; exact own_nil_S.mono (Nat.le_refl _) (by omega), hb2⟩
  | true =>
    have hA := HAR.out rfl
    obtain ⟨N, rfl⟩ : ∃ N : Nat, ar = (N : Int) := ⟨ar.toNat, by omega⟩
    rw [Int.toNat_natCast] at HMK
    have hN3 : N ≤ 3 := by omega
    obtain ⟨P, hP⟩ : ∃ P, P = 2 ^ N := ⟨_, rfl⟩
    have hP8 : 2 ≤ P ∧ P ≤ 8 := by
      rw [hP]
      rcases (by omega : N = 1 ∨ N = 2 ∨ N = 3) with rfl | rfl | rfl <;> decide
    have hw : wrap64 ((2 : Int) ^ N) = (P : Int) := by
      rw [hP]
      rcases (by omega : N = 1 ∨ N = 2 ∨ N = 3) with rfl | rfl | rfl <;> (unfold wrap64; decide)
    rw [← hP] at HMK
    clear HVT HAR hA hP
    have tt0 := t_0
    have tt1 := t_1
    have tt2 := t_2
    obtain ⟨w3, hw3⟩ : ∃ W, W = w9.alloc (.cells #[] 24) := ⟨_, rfl⟩
    have z3 : Below w9.heap.size w9 w3 := by rw [hw3]; exact (Below.refl _ _).alloc (Nat.le_refl _) _
    have s3 : w3.heap.size = w9.heap.size + 1 := by rw [hw3]; simp
    have hb3 := on hb2 z3
    replace t_0 := (z3.cell (p := ⟨w.heap.size, 0, none⟩) (by simp only []; omega)).trans t_0
    replace t_1 := (z3.cell (p := ⟨w.heap.size, 1, none⟩) (by simp only []; omega)).trans t_1
    replace t_2 := (z3.cell (p := ⟨w.heap.size, 2, none⟩) (by simp only []; omega)).trans t_2
    have ho : ∀ S, Acc 24 oI w9.heap.size S w3.heap.size w3 (.slice (some ⟨w9.heap.size, 0, none⟩) 0 0) [] := fun S => by rw [hw3]; exact Acc.empty (by omega) (by first | (simp; done) | (simp; omega))
    have raw3_t_0 := t_0
    have raw3_t_1 := t_1
    have raw3_t_2 := t_2
    rw [hw3] at raw3_t_0 raw3_t_1 raw3_t_2
    obtain ⟨w4, hw4⟩ : ∃ W, W = w3.alloc (.cells #[] 3) := ⟨_, rfl⟩
    have z4 : Below w3.heap.size w3 w4 := by rw [hw4]; exact (Below.refl _ _).alloc (Nat.le_refl _) _
    have s4 : w4.heap.size = w3.heap.size + 1 := by rw [hw4]; simp
    have hb4 := on hb3 z4
    replace t_0 := (z4.cell (p := ⟨w.heap.size, 0, none⟩) (by simp only []; omega)).trans t_0
    replace t_1 := (z4.cell (p := ⟨w.heap.size, 1, none⟩) (by simp only []; omega)).trans t_1
    replace t_2 := (z4.cell (p := ⟨w.heap.size, 2, none⟩) (by simp only []; omega)).trans t_2
    replace ho := fun S => (ho S).below z4 (by omega)
    have hk : ∀ S, Acc 3 O.int w3.heap.size S w4.heap.size w4 (.slice (some ⟨w9.heap.size + 1, 0, none⟩) 0 0) [] := fun S => by rw [hw4]; exact Acc.empty (by omega) (by first | (simp; done) | (simp; omega))
    have raw4_t_0 := t_0
    have raw4_t_1 := t_1
    have raw4_t_2 := t_2
    rw [hw4, hw3] at raw4_t_0 raw4_t_1 raw4_t_2
    obtain ⟨w5, hw5⟩ : ∃ W, W = w4.alloc (.cells #[.int .i64 0] 3) := ⟨_, rfl⟩
    have z5 : Below w4.heap.size w4 w5 := by rw [hw5]; exact (Below.refl _ _).alloc (Nat.le_refl _) _
    have s5 : w5.heap.size = w4.heap.size + 1 := by rw [hw5]; simp
    have hb5 := on hb4 z5
    replace t_0 := (z5.cell (p := ⟨w.heap.size, 0, none⟩) (by simp only []; omega)).trans t_0
    replace t_1 := (z5.cell (p := ⟨w.heap.size, 1, none⟩) (by simp only []; omega)).trans t_1
    replace t_2 := (z5.cell (p := ⟨w.heap.size, 2, none⟩) (by simp only []; omega)).trans t_2
    replace ho := fun S => (ho S).below z5 (by omega)
    replace hk := fun S => (hk S).below z5 (by omega)
    have e5 : w4.heap.size = w9.heap.size + 1 + 1 := by omega
    have c_0 : w5.cell? ⟨w4.heap.size, 0, none⟩ = some (.int .i64 0) := by rw [hw5]; exact box_cell (Below.refl _ _) rfl
    rw [e5] at c_0
    have c_f0 : w5.frozen? ⟨w4.heap.size, 0, none⟩ = false := by rw [hw5]; exact box_frozen (Below.refl _ _)
    rw [e5] at c_f0
    have raw5_t_0 := t_0
    have raw5_t_1 := t_1
    have raw5_t_2 := t_2
    have raw5_c_0 := c_0
    rw [hw5, hw4, hw3] at raw5_t_0 raw5_t_1 raw5_t_2 raw5_c_0
    have hTwo : Two w9.heap.size w5.heap.size (w9.heap.size + 1 + 1) w5 (.slice (some ⟨w9.heap.size, 0, none⟩) 0 0) (.slice (some ⟨w9.heap.size + 1, 0, none⟩) 0 0) (setsOf (minTo key 0)) (ints (minTo key 0)) := by
      have o1 := (ho w5.heap.size).own (B := w9.heap.size) (hi' := w9.heap.size + 1) (Nat.le_refl _) (by omega) (by omega)
      have o2 := (hk w5.heap.size).own (B := w9.heap.size + 1) (hi' := w9.heap.size + 2) (by omega) (by omega) (by omega)
      exact (Two.mk o1 o2 (.inr (Nat.le_refl _)) (by omega) (by omega)).mono (by omega)
    have hbT : Below w9.heap.size w9 w5 := (z3.trans (z4.mono (by omega))).trans (z5.mono (by omega))
    clear ho hk
    go_wp2_with fail
    rw [← hw3]
    rw [← hw4]
    rw [← hw5]
    clear hw5 hw4 hw3
    clear raw3_t_0 raw3_t_1 raw3_t_2 raw4_t_0 raw4_t_1 raw4_t_2 raw5_t_0 raw5_t_1 raw5_t_2 raw5_c_0
    go_loopg [5, 6, 7] P (fun g v u p wr => ∃ (m cb : Nat), g = P - m ∧ m ≤ P ∧ p = .pointer (some ⟨cb, 0, none⟩) ∧ wr.cell? ⟨cb, 0, none⟩ = some (.int .i64 (m : Int)) ∧ wr.frozen? ⟨cb, 0, none⟩ = false ∧ cb < wr.heap.size ∧ Two w9.heap.size wr.heap.size cb wr v u (setsOf (minTo key m)) (ints (minTo key m)) ∧ Below w9.heap.size w9 wr)
    case atStart => exact ⟨0, _, by omega, Nat.zero_le _, rfl, c_0, c_f0, by omega, hTwo, hbT⟩
    case round =>
      obtain ⟨m, cb, rfl, hm, rfl, hc, hf, hcb, hTw, hdr⟩ := hrel
      have hlc := hdr
      clear hTwo hbT
      clear c_0 c_f0
      clear t_0 t_1 t_2
      have t_0 := tt0
      have t_1 := tt1
      have t_2 := tt2
      have hTa := hb2
      clear tt0 tt1 tt2
      have s6 := hdr.size
      have hb6 := on hTa hdr
      replace t_0 := (hdr.cell (p := ⟨w.heap.size, 0, none⟩) (by simp only []; omega)).trans t_0
      replace t_1 := (hdr.cell (p := ⟨w.heap.size, 1, none⟩) (by simp only []; omega)).trans t_1
      replace t_2 := (hdr.cell (p := ⟨w.heap.size, 2, none⟩) (by simp only []; omega)).trans t_2
      have cc := hc
      obtain ⟨va, vn, vc, rfl⟩ := oII_form1 hTw.fst
      obtain ⟨ka, kn, kc, rfl⟩ := oI_form1 hTw.snd
      have hmn := minTo_len (key := key) m
      have hml : (minTo key m).length ≤ 8 := by omega
      have HLT := Lib.hid (fun k (h9 : k ∈ minTo key m) => show k < 1000 by have := minTo_lt h9; omega)
      clear hc hmn
      by_cases hlt : m < P
      · have hd9 : decide (m < P) = true := by simpa using hlt
        go_wp2_with fail
        refine wp_region_quiet_lit (by kernel_rfl) (by kernel_rfl) ?_
        repeat (go_big_quiet_step (fail))
        refine wpQuiet_nil ?_
        intro W8 hW8
        replace hW8 : Drew wr W8 := hW8
        have hf8 : W8.frozen? ⟨cb, 0, none⟩ = false := ((hW8.below wr.heap.size).frozen (p := ⟨cb, 0, none⟩) hcb).trans hf
        replace hW8 : Below wr.heap.size wr W8 := hW8.below _
        have s7 := hW8.size
        have hb7 := on hb6 hW8
        replace t_0 := (hW8.cell (p := ⟨w.heap.size, 0, none⟩) (by simp only []; omega)).trans t_0
        replace t_1 := (hW8.cell (p := ⟨w.heap.size, 1, none⟩) (by simp only []; omega)).trans t_1
        replace t_2 := (hW8.cell (p := ⟨w.heap.size, 2, none⟩) (by simp only []; omega)).trans t_2
        replace hlc := on hlc hW8
        replace hTw := hTw.below hW8 (by omega)
        replace cc := (hW8.cell (p := ⟨cb, 0, none⟩) (by simp only []; omega)).trans cc
        have hcb8 : cb < W8.heap.size := by omega
        have hh9 := minHas_any ka kn kc (minTo key m) m cb W8 (rI_ints (hTw.snd.rd reads_I)) HLT.out (by omega) cc
        obtain ⟨al, hal⟩ : ∃ al, (minTo key m).all (fun k => !decide (k &&& m = k)) = al := ⟨_, rfl⟩
        rw [hal] at hh9
        have HH9 := Lib.hid hh9
        have HAL := Lib.hid hal
        clear hh9 hal hd9
        cases al with
        | false =>
          have HN : Hid (minTo key (m + 1) = minTo key m) := Lib.hid (minTo_no1 HAL.out)
          go_wp2_with (go_at_call 126; refine HH9.out.mono ?_; rintro e w' ⟨rfl, rfl⟩)
          refine wp_region_noPanic ?_
          refine wp_region_held_drew (S := (fun W => W.cell? ⟨w.heap.size, 0, none⟩ = some (.string s) ∧ W.cell? ⟨w.heap.size, 1, none⟩ = some (.int .i64 (N : Int)) ∧ W.cell? ⟨w.heap.size, 2, none⟩ = some (.slice ub un uc) ∧ W.cell? ⟨cb, 0, none⟩ = some (.int .i64 (m : Int)))) (by kernel_rfl) ?hS8 (fun hHeld => ?_)
          case hS8 => exact ⟨t_0, t_1, t_2, cc⟩
          refine wpAnyH_take (i := 0) (v := ?v0_9) rfl (by kernel_rfl) (by kernel_rfl) (by kernel_rfl) (fun _ _ _ h => h) (Or.inl ⟨by rfl, ?hy0_9⟩) (by assumption) ?rest0_9
          case hy0_9 => intro w hSw; (try dsimp only at hSw); go_simp; (try with_reducible rfl)
          try simp only [Act.put, List.getElem_toArray, List.getElem_cons_succ, List.getElem_cons_zero, List.setIfInBounds_toArray, List.set_cons_zero, List.set_cons_succ]
          refine wpAnyH_take (i := 1) (v := ?v1_10) rfl (by kernel_rfl) (by kernel_rfl) (by kernel_rfl) (fun _ _ _ h => h) (Or.inl ⟨by rfl, ?hy1_10⟩) (by assumption) ?rest1_10
          case hy1_10 => intro w hSw; (try dsimp only at hSw); go_simp; (try with_reducible rfl)
          try simp only [Act.put, List.getElem_toArray, List.getElem_cons_succ, List.getElem_cons_zero, List.setIfInBounds_toArray, List.set_cons_zero, List.set_cons_succ]
          refine wpAnyH_take (i := 2) (v := undef) rfl (by kernel_rfl) (by kernel_rfl) (by kernel_rfl) (fun _ _ _ h => h) (Or.inr ⟨by rfl, rfl⟩) (by assumption) ?_
          try simp only [Act.put, List.getElem_toArray, List.getElem_cons_succ, List.getElem_cons_zero, List.setIfInBounds_toArray, List.set_cons_zero, List.set_cons_succ]
          refine wpAnyH_take (i := 3) (v := undef) rfl (by kernel_rfl) (by kernel_rfl) (by kernel_rfl) (fun _ _ _ h => h) (Or.inr ⟨by rfl, rfl⟩) (by assumption) ?_
          try simp only [Act.put, List.getElem_toArray, List.getElem_cons_succ, List.getElem_cons_zero, List.setIfInBounds_toArray, List.set_cons_zero, List.set_cons_succ]
          refine wpAnyH_take (i := 4) (v := undef) rfl (by kernel_rfl) (by kernel_rfl) (by kernel_rfl) (fun _ _ _ h => h) (Or.inr ⟨by rfl, rfl⟩) (by assumption) ?_
          try simp only [Act.put, List.getElem_toArray, List.getElem_cons_succ, List.getElem_cons_zero, List.setIfInBounds_toArray, List.set_cons_zero, List.set_cons_succ]
          refine wpAnyH_take (i := 5) (v := undef) rfl (by kernel_rfl) (by kernel_rfl) (by kernel_rfl) (fun _ _ _ h => h) (Or.inr ⟨by rfl, rfl⟩) (by assumption) ?_
          try simp only [Act.put, List.getElem_toArray, List.getElem_cons_succ, List.getElem_cons_zero, List.setIfInBounds_toArray, List.set_cons_zero, List.set_cons_succ]
          refine wpAnyH_take (i := 6) (v := undef) rfl (by kernel_rfl) (by kernel_rfl) (by kernel_rfl) (fun _ _ _ h => h) (Or.inr ⟨by rfl, rfl⟩) (by assumption) ?_
          try simp only [Act.put, List.getElem_toArray, List.getElem_cons_succ, List.getElem_cons_zero, List.setIfInBounds_toArray, List.set_cons_zero, List.set_cons_succ]
          refine wpAnyH_take (i := 7) (v := ?v7_11) rfl (by kernel_rfl) (by kernel_rfl) (by kernel_rfl) (fun _ _ _ h => h) (Or.inl ⟨by rfl, ?hy7_11⟩) (by assumption) ?rest7_11
          case hy7_11 => intro w hSw; (try dsimp only at hSw); go_simp; (try with_reducible rfl)
          try simp only [Act.put, List.getElem_toArray, List.getElem_cons_succ, List.getElem_cons_zero, List.setIfInBounds_toArray, List.set_cons_zero, List.set_cons_succ]
          refine wpAnyH_done (by kernel_rfl) ?_ _
          refine NoPanic.normal ?_
          have hd8 : Below W8.heap.size W8 W8.drew := (Below.refl _ _).drew
          obtain ⟨W9, hW9⟩ : ∃ W, W = W8.drew := ⟨_, rfl⟩
          rw [← hW9] at hd8
          have cc9 : W9.cell? ⟨cb, 0, none⟩ = some (.int .i64 (m : Int)) := (hd8.cell (p := ⟨cb, 0, none⟩) hcb8).trans cc
          have hz9 : W8.heap.size ≤ W9.heap.size := hd8.size
          rw [← hW9]
          clear hW9 HH9
          have hn9 := two_next (.int .i64 ((m : Int) + 1)) ((hTw.below hd8 (by omega)).mono (show _ ≤ W9.heap.size by omega))
          have hl9 : Below w9.heap.size w9 (W9.alloc (.cells #[.int .i64 ((m : Int) + 1)] 3)) := (hlc.trans (hd8.mono (by omega))).alloc (by omega) _
          have HN9 := Lib.hid hn9
          have HL9 := Lib.hid hl9
          clear hn9 hl9 hTw
          go_wp2_with fail
          go_roundg (P - (m + 1))
          case measure => omega
          case rel => exact ⟨m + 1, W9.heap.size, rfl, by omega, rfl, by simp, HN9.out.2.2, by simp, by rw [HN.out]; exact HN9.out.1, HL9.out⟩
        | true =>
          obtain ⟨kk, hkk⟩ : ∃ kk, key m = kk := ⟨_, rfl⟩
          have HK1 : Hid (∀ (v : Value) W, Below w.heap.size w W → rI.rep W [v] (bitsTo m 3) → Calls Try.prog 70 #[.slice a n c, .agg #[.string s, .int .i64 (N : Int), .slice ub un uc], v] W fun e w' => e = .returned (.bool kk) ∧ Below W.heap.size W w') := Lib.hid (fun v W h1 h2 => by rw [← hkk]; exact HIK2.out v m W h1 h2)
          have HKK := Lib.hid hkk
          clear hkk
          have hb8 := hb7
          go_wp2_with (go_at_call 126; refine HH9.out.mono ?_; rintro e w' ⟨rfl, rfl⟩)
          clear HH9
          refine wp_region_noPanic ?_
          refine wp_region_held_drew (S := (fun W => W.cell? ⟨w.heap.size, 0, none⟩ = some (.string s) ∧ W.cell? ⟨w.heap.size, 1, none⟩ = some (.int .i64 (N : Int)) ∧ W.cell? ⟨w.heap.size, 2, none⟩ = some (.slice ub un uc) ∧ W.cell? ⟨cb, 0, none⟩ = some (.int .i64 (m : Int)))) (by kernel_rfl) ?hS12 (fun hHeld => ?_)
          case hS12 => exact ⟨t_0, t_1, t_2, cc⟩
          refine wpAnyH_take (i := 0) (v := ?v0_13) rfl (by kernel_rfl) (by kernel_rfl) (by kernel_rfl) (fun _ _ _ h => h) (Or.inl ⟨by rfl, ?hy0_13⟩) (by assumption) ?rest0_13
          case hy0_13 => intro w hSw; (try dsimp only at hSw); go_simp; (try with_reducible rfl)
          try simp only [Act.put, List.getElem_toArray, List.getElem_cons_succ, List.getElem_cons_zero, List.setIfInBounds_toArray, List.set_cons_zero, List.set_cons_succ]
          refine wpAnyH_take (i := 1) (v := ?v1_14) rfl (by kernel_rfl) (by kernel_rfl) (by kernel_rfl) (fun _ _ _ h => h) (Or.inl ⟨by rfl, ?hy1_14⟩) (by assumption) ?rest1_14
          case hy1_14 => intro w hSw; (try dsimp only at hSw); go_simp; (try with_reducible rfl)
          try simp only [Act.put, List.getElem_toArray, List.getElem_cons_succ, List.getElem_cons_zero, List.setIfInBounds_toArray, List.set_cons_zero, List.set_cons_succ]
          refine wpAnyH_take (i := 2) (v := ?v2_15) rfl (by kernel_rfl) (by kernel_rfl) (by kernel_rfl) (fun _ _ _ h => h) (Or.inl ⟨by rfl, ?hy2_15⟩) (by assumption) ?rest2_15
          case hy2_15 => intro w hSw; (try dsimp only at hSw); go_simp; (try with_reducible rfl)
          try simp only [Act.put, List.getElem_toArray, List.getElem_cons_succ, List.getElem_cons_zero, List.setIfInBounds_toArray, List.set_cons_zero, List.set_cons_succ]
          refine wpAnyH_take (i := 3) (v := ?v3_16) rfl (by kernel_rfl) (by kernel_rfl) (by kernel_rfl) (fun _ _ _ h => h) (Or.inl ⟨by rfl, ?hy3_16⟩) (by assumption) ?rest3_16
          case hy3_16 => intro w hSw; (try dsimp only at hSw); go_simp; (try with_reducible rfl)
          try simp only [Act.put, List.getElem_toArray, List.getElem_cons_succ, List.getElem_cons_zero, List.setIfInBounds_toArray, List.set_cons_zero, List.set_cons_succ]
          refine wpAnyH_take (i := 4) (v := ?v4_17) rfl (by kernel_rfl) (by kernel_rfl) (by kernel_rfl) (fun _ _ _ h => h) (Or.inl ⟨by rfl, ?hy4_17⟩) (by assumption) ?rest4_17
          case hy4_17 => intro w hSw; (try dsimp only at hSw); go_simp; (try with_reducible rfl)
          try simp only [Act.put, List.getElem_toArray, List.getElem_cons_succ, List.getElem_cons_zero, List.setIfInBounds_toArray, List.set_cons_zero, List.set_cons_succ]
          refine wpAnyH_ready (rs := [5]) (by kernel_rfl) (by simp) ?_
          refine AllReadyH.cons rfl (fun K hK => ?_) AllReadyH.nil
          go_simp; (refine (bitsOf_any m _ (by omega)).mono ?_); rintro e wA ⟨bb, bn, bc, rfl, ob, zA⟩; replace zA : Below W8.heap.size W8 wA := on (Below.refl _ _).drew zA; have sA := zA.size; have hbA := on hb8 zA; have hSA := (⟨(zA.cell (p := ⟨w.heap.size, 0, none⟩) (by simp only []; omega)).trans t_0, (zA.cell (p := ⟨w.heap.size, 1, none⟩) (by simp only []; omega)).trans t_1, (zA.cell (p := ⟨w.heap.size, 2, none⟩) (by simp only []; omega)).trans t_2, (zA.cell (p := ⟨cb, 0, none⟩) (by simp only []; omega)).trans cc⟩ : (fun W => W.cell? ⟨w.heap.size, 0, none⟩ = some (.string s) ∧ W.cell? ⟨w.heap.size, 1, none⟩ = some (.int .i64 (N : Int)) ∧ W.cell? ⟨w.heap.size, 2, none⟩ = some (.slice ub un uc) ∧ W.cell? ⟨cb, 0, none⟩ = some (.int .i64 (m : Int))) wA)
          refine hK.out _ _ ?_ (fun hHeld => ?_)
          · exact hSA
          clear hK K
          try simp only [Act.put, List.setIfInBounds_toArray, List.set_cons_zero, List.set_cons_succ]
          refine wpAnyH_ready (rs := [6]) (by kernel_rfl) (by simp) ?_
          refine AllReadyH.cons rfl (fun K hK => ?_) AllReadyH.nil
          go_simp; (refine (HK1.out _ _ hbA (ob.own.rd reads_I)).mono ?_); rintro e wB ⟨rfl, zB⟩; have sB := zB.size; have hbB := on hbA zB; have hSB := (⟨(zB.cell (p := ⟨w.heap.size, 0, none⟩) (by simp only []; omega)).trans hSA.1, (zB.cell (p := ⟨w.heap.size, 1, none⟩) (by simp only []; omega)).trans hSA.2.1, (zB.cell (p := ⟨w.heap.size, 2, none⟩) (by simp only []; omega)).trans hSA.2.2.1, (zB.cell (p := ⟨cb, 0, none⟩) (by simp only []; omega)).trans hSA.2.2.2⟩ : (fun W => W.cell? ⟨w.heap.size, 0, none⟩ = some (.string s) ∧ W.cell? ⟨w.heap.size, 1, none⟩ = some (.int .i64 (N : Int)) ∧ W.cell? ⟨w.heap.size, 2, none⟩ = some (.slice ub un uc) ∧ W.cell? ⟨cb, 0, none⟩ = some (.int .i64 (m : Int))) wB)
          refine hK.out _ _ ?_ (fun hHeld => ?_)
          · exact hSB
          clear hK K
          try simp only [Act.put, List.setIfInBounds_toArray, List.set_cons_zero, List.set_cons_succ]
          refine wpAnyH_take (i := 7) (v := ?v7_18) rfl (by kernel_rfl) (by kernel_rfl) (by kernel_rfl) (fun _ _ _ h => h) (Or.inl ⟨by rfl, ?hy7_18⟩) (by assumption) ?rest7_18
          case hy7_18 => intro w hSw; (try dsimp only at hSw); go_simp; (try with_reducible rfl)
          try simp only [Act.put, List.getElem_toArray, List.getElem_cons_succ, List.getElem_cons_zero, List.setIfInBounds_toArray, List.set_cons_zero, List.set_cons_succ]
          refine wpAnyH_done (by kernel_rfl) ?_ _
          refine NoPanic.normal ?_
          have z8B := on zA zB
          have ccB := hSB.2.2.2
          have hTB := (hTw.below z8B (by omega)).mono (show _ ≤ wB.heap.size by omega)
          have hlB := hlc.trans (z8B.mono (by omega))
          clear hTw hSA hSB ob HK1
          cases kk with
          | false =>
            have HN : Hid (minTo key (m + 1) = minTo key m) := Lib.hid (minTo_no2 HKK.out)
            have hn9 := two_next (.int .i64 ((m : Int) + 1)) hTB
            have hl9 : Below w9.heap.size w9 (wB.alloc (.cells #[.int .i64 ((m : Int) + 1)] 3)) := hlB.alloc (by omega) _
            have HN9 := Lib.hid hn9
            have HL9 := Lib.hid hl9
            clear hn9 hl9 hTB
            go_wp2_with fail
            go_roundg (P - (m + 1))
            case measure => omega
            case rel => exact ⟨m + 1, wB.heap.size, rfl, by omega, rfl, by simp, HN9.out.2.2, by simp, by rw [HN.out]; exact HN9.out.1, HL9.out⟩
          | true =>
            have HN : Hid (minTo key (m + 1) = minTo key m ++ [m]) := Lib.hid (minTo_yes HAL.out HKK.out)
            have hcbB : cb < wB.heap.size := by omega
            obtain ⟨ka2, kn2, kc2, wk, hrk, hTk, hbk, hzk, hck⟩ := Two.num 24 hTB (r := (m : Int)) ⟨by omega, by omega⟩ (Nat.le_refl _) hcbB (by omega) (by simp [ints]; omega) rfl
            have cck : wk.cell? ⟨cb, 0, none⟩ = some (.int .i64 (m : Int)) := (World.cell?_of_block (a := ⟨cb, 0, none⟩) hck).trans ccB
            go_wp2_with ((at_builtin; refine wpList_app_run hrk rfl rfl rfl rfl rfl ?_))
            refine (bitsOf_any m wk (by omega)).mono ?_
            rintro e wL ⟨lb, ln, lc, rfl, ol, zL⟩
            have sL := zL.size
            obtain ⟨va2, vn2, vc2, wO, hrO, hTO, hbO, hzO, hcO⟩ := Two.row 32 (hTk.below zL (Nat.le_refl _)) ol.own rfl (Nat.le_refl _) sL (Nat.le_refl _) (show cb < wk.heap.size by omega) (by omega) (by simp [setsOf]; omega) rfl
            have ccL : wL.cell? ⟨cb, 0, none⟩ = some (.int .i64 (m : Int)) := (zL.cell (p := ⟨cb, 0, none⟩) (by simp only []; omega)).trans cck
            have ccO : wO.cell? ⟨cb, 0, none⟩ = some (.int .i64 (m : Int)) := (World.cell?_of_block (a := ⟨cb, 0, none⟩) hcO).trans ccL
            have hlO := ((hlB.trans hbk).trans (zL.mono (by omega))).trans hbO
            have hn9 := two_next (.int .i64 ((m : Int) + 1)) hTO
            have hl9 : Below w9.heap.size w9 (wO.alloc (.cells #[.int .i64 ((m : Int) + 1)] 3)) := hlO.alloc (by omega) _
            rw [← setsOf_snoc, ← ints_snoc, ← HN.out] at hn9
            have HN9 := Lib.hid hn9
            have HL9 := Lib.hid hl9
            clear hn9 hl9 hTO hTk hTB ol
            go_wp2_with ((at_builtin; refine wpList_app_run hrO rfl rfl rfl rfl rfl ?_))
            go_roundg (P - (m + 1))
            case measure => omega
            case rel => exact ⟨m + 1, wO.heap.size, rfl, by omega, rfl, by simp, HN9.out.2.2, by simp, HN9.out.1, HL9.out⟩
      · have hmP : m = P := by omega
        have hd9 : decide (m < P) = false := by simpa using hlt
        have HE : Hid (mk = setsOf (minTo key m)) := Lib.hid (by rw [HMK.out, hmP]; rfl)
        go_wp2_with fail
        refine wp_region_quiet_lit (by kernel_rfl) (by kernel_rfl) ?_
        repeat (go_big_quiet_step (fail))
        refine wpQuiet_nil ?_
        intro W8 hW8
        replace hW8 : Drew wr W8 := hW8
        replace hW8 : Below wr.heap.size wr W8 := hW8.below _
        have s19 := hW8.size
        have hb19 := on hb6 hW8
        replace t_0 := (hW8.cell (p := ⟨w.heap.size, 0, none⟩) (by simp only []; omega)).trans t_0
        replace t_1 := (hW8.cell (p := ⟨w.heap.size, 1, none⟩) (by simp only []; omega)).trans t_1
        replace t_2 := (hW8.cell (p := ⟨w.heap.size, 2, none⟩) (by simp only []; omega)).trans t_2
        replace hlc := on hlc hW8
        replace hTw := hTw.below hW8 (by omega)
        replace cc := (hW8.cell (p := ⟨cb, 0, none⟩) (by simp only []; omega)).trans cc
        have HO := Lib.hid (hTw.fst.mono (lo' := w.heap.size) (hi' := W8.heap.size) (by omega) (by omega))
        clear hTw hmP
        go_wp2_with fail
        go_ret
        exact ⟨_, rfl, by rw [HE.out]; exact HO.out, hb19⟩

end Go.Proofs.Ytbkoddikfpkocaa

/- Contracts: the least keys, by the reference. -/
namespace Go.Proofs.Ytbkoddikfpkocaa
open Go.RowKit
set_option linter.unusedVariables false
set_option linter.unusedSimpArgs false
set_option synthInstance.maxSize 2000
set_option synthInstance.maxHeartbeats 400000

theorem wrap_pow3 {j : Nat} (h : j < 3) : wrap64 ((2 : Int) ^ j) = ((2 ^ j : Nat) : Int) := by
  rcases (by omega : j = 0 ∨ j = 1 ∨ j = 2) with rfl | rfl | rfl <;> (unfold wrap64; decide)
theorem min_no {key : Nat → Bool} {m : Nat} {al kk : Bool} (h : (minTo key m).all (fun k => !decide (k &&& m = k)) = al) (h' : key m = kk) (h1 : false = (kk && al)) : minTo key (m + 1) = minTo key m := by
  cases al
  · exact minTo_no1 h
  · rw [Bool.and_true] at h1; exact minTo_no2 (h'.trans h1.symm)
theorem min_yes {key : Nat → Bool} {m : Nat} {al kk : Bool} (h : (minTo key m).all (fun k => !decide (k &&& m = k)) = al) (h' : key m = kk) (h1 : true = (kk && al)) : minTo key (m + 1) = minTo key m ++ [m] := by
  cases al
  · rw [Bool.and_false] at h1; cases h1
  · rw [Bool.and_true] at h1; exact minTo_yes h (h'.trans h1.symm)
theorem wrap_pow3' {j : Nat} (h : j < 3) : IntKind.i64.wrap ((2 : Int) ^ j) = ((2 ^ j : Nat) : Int) := by
  rcases (by omega : j = 0 ∨ j = 1 ∨ j = 2) with rfl | rfl | rfl <;> rfl
theorem l12Set_sub (m Q : Nat) (h : Q ≤ m) (hm : m < 9223372036854775808) (w : World) :
    Calls Try.prog 152 #[.int .i64 ((m : Int) - (Q : Int))] w fun e w' => ∃ b n c, e = .returned (.slice b n c) ∧ OwnInts w.heap.size w' (.slice b n c) n (bitsTo (m - Q) 3) ∧ Below w.heap.size w w' := by
  have h9 := l12Set_any (m - Q) w (by omega)
  rw [show ((m - Q : Nat) : Int) = (m : Int) - (Q : Int) by omega] at h9
  exact h9
theorem less_of {m j : Nat} (hm : m < 8) (hj : j < 3) (h : bitAt m j = true) : 2 ^ j ≤ m := by
  have h9 := (less_sub ⟨m, hm⟩ ⟨j, hj⟩ h).1
  simpa using h9

set_option maxRecDepth 100000 in
set_option maxHeartbeats 4000000 in
theorem minKeys_spec (u0 : Value) (cs : List Value) (ds : List DDp) (t : DT) (w : World) (h : rDl.rep w [u0] ds) (ht : rT.rep w cs t) :
    Calls Try.prog 81 #[u0, .agg cs.toArray] w fun e w' => ∃ u, e = .returned u ∧ Own oII w.heap.size w'.heap.size w' [u] (minKeys ds t) ∧ Below w.heap.size w w' := by
  obtain ⟨a, n, c, hv⟩ := rS_form h
  simp at hv; subst hv
  have HVT := Lib.hid (fun W (hW : Below w.heap.size w W) => validT_spec _ t W (rT.mono ht hW))
  have HIK := Lib.hid (fun (v : Value) (xs : List Int) W (hW : Below w.heap.size w W) (hx : rI.rep W [v] xs) => isKey_spec _ v cs ds t xs W (rDl.mono h hW) (rT.mono ht hW) hx)
  obtain ⟨ub, un, uc, rfl, hs, hi, g1⟩ := rT_open ht
  obtain ⟨key, hkey⟩ : ∃ key, key = keyM ds t := ⟨_, rfl⟩
  have HMK : Hid (minKeys ds t = if validT t then setsOf (minTo key (2 ^ t.2.1.toNat)) else []) := Lib.hid (by rw [hkey]; rfl)
  have HKE : Hid (∀ m, isKey ds t (bitsTo m 3) = key m) := Lib.hid (fun m => by rw [hkey]; rfl)
  have HAR : Hid (validT t = true → 1 ≤ t.2.1 ∧ t.2.1 ≤ 3) := Lib.hid (fun h => (TOk.of h).ar)
  obtain ⟨mk, hmk⟩ : ∃ mk, minKeys ds t = mk := ⟨_, rfl⟩
  rw [hmk] at HMK ⊢
  have HIK2 := Lib.hid (fun (v : Value) (m : Nat) W (hW : Below w.heap.size w W) (hx : rI.rep W [v] (bitsTo m 3)) => by have h9 := HIK.out v _ W hW hx; rw [HKE.out m] at h9; exact h9)
  obtain ⟨s, ar, rows⟩ := t
  simp only at hs hi g1 HVT HMK HAR HIK2
  obtain ⟨V, hV⟩ : ∃ V, validT (s, ar, rows) = V := ⟨_, rfl⟩
  rw [hV] at HVT HMK HAR
  clear hV h ht g1 hs hi hkey hmk HIK HKE
  have hb0 : Below w.heap.size w w := Below.refl _ _
  go_enter Try.func81, Try.ntmps81
  obtain ⟨w1, hw1⟩ : ∃ W, W = w.alloc (.cells #[.string s, .int .i64 ar, .slice ub un uc] 34) := ⟨_, rfl⟩
  have z1 : Below w.heap.size w w1 := by rw [hw1]; exact (Below.refl _ _).alloc (Nat.le_refl _) _
  have s1 : w1.heap.size = w.heap.size + 1 := by rw [hw1]; simp
  have hb1 := on hb0 z1
  have t_0 : w1.cell? ⟨w.heap.size, 0, none⟩ = some (.string s) := by rw [hw1]; exact box_cell (Below.refl _ _) rfl
  have t_1 : w1.cell? ⟨w.heap.size, 1, none⟩ = some (.int .i64 ar) := by rw [hw1]; exact box_cell (Below.refl _ _) rfl
  have t_2 : w1.cell? ⟨w.heap.size, 2, none⟩ = some (.slice ub un uc) := by rw [hw1]; exact box_cell (Below.refl _ _) rfl
  have raw1_t_0 := t_0
  have raw1_t_1 := t_1
  have raw1_t_2 := t_2
  rw [hw1] at raw1_t_0 raw1_t_1 raw1_t_2
  obtain ⟨w2, hw2⟩ : ∃ W, W = w1.alloc (.cells #[] 24) := ⟨_, rfl⟩
  have z2 : Below w1.heap.size w1 w2 := by rw [hw2]; exact (Below.refl _ _).alloc (Nat.le_refl _) _
  have s2 : w2.heap.size = w1.heap.size + 1 := by rw [hw2]; simp
  have hb2 := on hb1 z2
  replace t_0 := (z2.cell (p := ⟨w.heap.size, 0, none⟩) (by simp only []; omega)).trans t_0
  replace t_1 := (z2.cell (p := ⟨w.heap.size, 1, none⟩) (by simp only []; omega)).trans t_1
  replace t_2 := (z2.cell (p := ⟨w.heap.size, 2, none⟩) (by simp only []; omega)).trans t_2
  have ho : ∀ S, Acc 24 oI w1.heap.size S w2.heap.size w2 (.slice (some ⟨w.heap.size + 1, 0, none⟩) 0 0) [] := fun S => by rw [hw2]; exact Acc.empty (by omega) (by first | (simp; done) | (simp; omega))
  have raw2_t_0 := t_0
  have raw2_t_1 := t_1
  have raw2_t_2 := t_2
  rw [hw2, hw1] at raw2_t_0 raw2_t_1 raw2_t_2
  obtain ⟨w3, hw3⟩ : ∃ W, W = w2.alloc (.cells #[] 3) := ⟨_, rfl⟩
  have z3 : Below w2.heap.size w2 w3 := by rw [hw3]; exact (Below.refl _ _).alloc (Nat.le_refl _) _
  have s3 : w3.heap.size = w2.heap.size + 1 := by rw [hw3]; simp
  have hb3 := on hb2 z3
  replace t_0 := (z3.cell (p := ⟨w.heap.size, 0, none⟩) (by simp only []; omega)).trans t_0
  replace t_1 := (z3.cell (p := ⟨w.heap.size, 1, none⟩) (by simp only []; omega)).trans t_1
  replace t_2 := (z3.cell (p := ⟨w.heap.size, 2, none⟩) (by simp only []; omega)).trans t_2
  replace ho := fun S => (ho S).below z3 (by omega)
  have hk : ∀ S, Acc 3 O.int w2.heap.size S w3.heap.size w3 (.slice (some ⟨w.heap.size + 1 + 1, 0, none⟩) 0 0) [] := fun S => by rw [hw3]; exact Acc.empty (by omega) (by first | (simp; done) | (simp; omega))
  have raw3_t_0 := t_0
  have raw3_t_1 := t_1
  have raw3_t_2 := t_2
  rw [hw3, hw2, hw1] at raw3_t_0 raw3_t_1 raw3_t_2
  have o1 := (ho w3.heap.size).own (B := w1.heap.size) (hi' := w1.heap.size + 1) (Nat.le_refl _) (by omega) (by omega)
  have o2 := (hk w3.heap.size).own (B := w1.heap.size + 1) (hi' := w1.heap.size + 2) (by omega) (by omega) (by omega)
  have hTw : Two w1.heap.size w3.heap.size w.heap.size w3 (.slice (some ⟨w.heap.size + 1, 0, none⟩) 0 0) (.slice (some ⟨w.heap.size + 1 + 1, 0, none⟩) 0 0) (setsOf (minTo key 0)) (ints (minTo key 0)) := by
    exact Two.mono (hi := w1.heap.size + 2) (Two.mk (mid := w1.heap.size + 1) o1 o2 (.inl (by omega)) (by omega) (by omega)) (by omega)
  have hbT : Below w1.heap.size w1 w3 := z2.trans (z3.mono (by omega))
  clear o1 o2 ho hk
  go_wp2_with fail
  rw [← hw1]
  rw [← hw2]
  rw [← hw3]
  clear hw3 hw2 hw1
  clear raw1_t_0 raw1_t_1 raw1_t_2 raw2_t_0 raw2_t_1 raw2_t_2 raw3_t_0 raw3_t_1 raw3_t_2
  refine (HVT.out _ hb3).mono ?_
  rintro e w9 ⟨rfl, z9⟩
  have s4 := z9.size
  have hb4 := on hb3 z9
  replace t_0 := (z9.cell (p := ⟨w.heap.size, 0, none⟩) (by simp only []; omega)).trans t_0
  replace t_1 := (z9.cell (p := ⟨w.heap.size, 1, none⟩) (by simp only []; omega)).trans t_1
  replace t_2 := (z9.cell (p := ⟨w.heap.size, 2, none⟩) (by simp only []; omega)).trans t_2
  replace hTw := hTw.below z9 (by omega)
  replace hbT := on hbT z9
  cases V with
  | false =>
    have HE : Hid (mk = []) := Lib.hid (by rw [HMK.out]; rfl)
    have HO := Lib.hid (hTw.fst.mono (lo' := w.heap.size) (hi' := w9.heap.size) (by omega) (by omega))
    clear hTw
    go_wp2_with fail
    go_ret
    exact ⟨_, rfl, by rw [HE.out]; exact HO.out, hb4⟩
  | true =>
    have hA := HAR.out rfl
    obtain ⟨N, rfl⟩ : ∃ N : Nat, ar = (N : Int) := ⟨ar.toNat, by omega⟩
    rw [Int.toNat_natCast] at HMK
    have hN3 : N ≤ 3 := by omega
    obtain ⟨P, hP⟩ : ∃ P, P = 2 ^ N := ⟨_, rfl⟩
    have hP8 : 2 ≤ P ∧ P ≤ 8 := by
      rw [hP]
      rcases (by omega : N = 1 ∨ N = 2 ∨ N = 3) with rfl | rfl | rfl <;> decide
    have hw : wrap64 ((2 : Int) ^ N) = (P : Int) := by
      rw [hP]
      rcases (by omega : N = 1 ∨ N = 2 ∨ N = 3) with rfl | rfl | rfl <;> (unfold wrap64; decide)
    rw [← hP] at HMK
    clear HVT HAR hA hP
    go_wp2_with fail
    have hcur : Below w9.heap.size w9 w9 := Below.refl _ _
    have HTw0 : Two w1.heap.size w9.heap.size w.heap.size w9 (.slice (some ⟨w.heap.size + 1, 0, none⟩) 0 0) (.slice (some ⟨w.heap.size + 1 + 1, 0, none⟩) 0 0) (setsOf (minTo key 0)) (ints (minTo key 0)) := hTw.mono (by omega)
    have hbT0 := hbT
    have t0a := t_0
    have t1a := t_1
    have t2a := t_2
    clear hTw
    go_loopw [5, 6, 7] (fun v u p wr => ∃ m : Nat, m ≤ P ∧ p = .int .i64 m ∧ Two w1.heap.size wr.heap.size w.heap.size wr v u (setsOf (minTo key m)) (ints (minTo key m)) ∧ (wr.cell? ⟨w.heap.size, 0, none⟩ = some (.string s) ∧ wr.cell? ⟨w.heap.size, 1, none⟩ = some (.int .i64 (N : Int)) ∧ wr.cell? ⟨w.heap.size, 2, none⟩ = some (.slice ub un uc)) ∧ Below w.heap.size w wr ∧ w1.heap.size ≤ wr.heap.size) (fun _ _ p _ => P - (intOf p).toNat)
    case atStart => exact ⟨0, Nat.zero_le _, rfl, HTw0, ⟨t_0, t_1, t_2⟩, hb4, by omega⟩
    case round =>
      obtain ⟨m, hm, rfl, hTw, ⟨u_0, u_1, u_2⟩, hdr, hTs⟩ := hrel
      clear HTw0 hbT0 t0a t1a t2a hcur
      clear t_0 t_1 t_2 hbT
      obtain ⟨wo, rfl⟩ : ∃ W, W = wr := ⟨_, rfl⟩
      obtain ⟨va, vn, vc, rfl⟩ := oII_form1 hTw.fst
      obtain ⟨ka, kn, kc, rfl⟩ := oI_form1 hTw.snd
      have hmn := minTo_len (key := key) m
      have hml : (minTo key m).length ≤ 8 := by omega
      have swo := hdr.size
      by_cases hlt : m < P
      · have hw0 : w.heap.size < wo.heap.size := by omega
        obtain ⟨kk, hkk⟩ : ∃ kk, key m = kk := ⟨_, rfl⟩
        have HKK := Lib.hid hkk
        have HK1 : Hid (∀ (v : Value) W, Below w.heap.size w W → rI.rep W [v] (bitsTo m 3) → Calls Try.prog 69 #[.slice a n c, .agg #[.string s, .int .i64 (N : Int), .slice ub un uc], v] W fun e w' => e = .returned (.bool kk) ∧ Below W.heap.size W w') := Lib.hid (fun v W h1 h2 => by rw [← hkk]; exact HIK2.out v m W h1 h2)
        clear hkk
        go_wp2_with fail
        refine wp_region_noPanic ?_
        refine wp_region_held_drew (S := (fun W => W.cell? ⟨w.heap.size, 0, none⟩ = some (.string s) ∧ W.cell? ⟨w.heap.size, 1, none⟩ = some (.int .i64 (N : Int)) ∧ W.cell? ⟨w.heap.size, 2, none⟩ = some (.slice ub un uc))) (by kernel_rfl) ?hS5 (fun hHeld => ?_)
        case hS5 => exact ⟨u_0, u_1, u_2⟩
        refine wpAnyH_take (i := 0) (v := ?v0_6) rfl (by kernel_rfl) (by kernel_rfl) (by kernel_rfl) (fun _ _ _ h => h) (Or.inl ⟨by rfl, ?hy0_6⟩) (by assumption) ?rest0_6
        case hy0_6 => intro w hSw; (try dsimp only at hSw); go_simp; (try with_reducible rfl)
        try simp only [Act.put, List.getElem_toArray, List.getElem_cons_succ, List.getElem_cons_zero, List.setIfInBounds_toArray, List.set_cons_zero, List.set_cons_succ]
        refine wpAnyH_take (i := 1) (v := ?v1_7) rfl (by kernel_rfl) (by kernel_rfl) (by kernel_rfl) (fun _ _ _ h => h) (Or.inl ⟨by rfl, ?hy1_7⟩) (by assumption) ?rest1_7
        case hy1_7 => intro w hSw; (try dsimp only at hSw); go_simp; (try with_reducible rfl)
        try simp only [Act.put, List.getElem_toArray, List.getElem_cons_succ, List.getElem_cons_zero, List.setIfInBounds_toArray, List.set_cons_zero, List.set_cons_succ]
        refine wpAnyH_take (i := 2) (v := ?v2_8) rfl (by kernel_rfl) (by kernel_rfl) (by kernel_rfl) (fun _ _ _ h => h) (Or.inl ⟨by rfl, ?hy2_8⟩) (by assumption) ?rest2_8
        case hy2_8 => intro w hSw; (try dsimp only at hSw); go_simp; (try with_reducible rfl)
        try simp only [Act.put, List.getElem_toArray, List.getElem_cons_succ, List.getElem_cons_zero, List.setIfInBounds_toArray, List.set_cons_zero, List.set_cons_succ]
        refine wpAnyH_ready (rs := [3]) (by kernel_rfl) (by simp) ?_
        refine AllReadyH.cons rfl (fun K hK => ?_) AllReadyH.nil
        go_simp; (refine (l12Set_any m _ (by omega)).mono ?_); rintro e wA ⟨bb, bn, bc, rfl, ob, zA⟩; replace zA : Below wo.heap.size wo wA := on (Below.refl _ _).drew zA; have sA := zA.size; have hbA := on hdr zA; have hSA := (⟨(zA.cell (p := ⟨w.heap.size, 0, none⟩) (by simp only []; omega)).trans u_0, (zA.cell (p := ⟨w.heap.size, 1, none⟩) (by simp only []; omega)).trans u_1, (zA.cell (p := ⟨w.heap.size, 2, none⟩) (by simp only []; omega)).trans u_2⟩ : (fun W => W.cell? ⟨w.heap.size, 0, none⟩ = some (.string s) ∧ W.cell? ⟨w.heap.size, 1, none⟩ = some (.int .i64 (N : Int)) ∧ W.cell? ⟨w.heap.size, 2, none⟩ = some (.slice ub un uc)) wA)
        refine hK.out _ _ ?_ (fun hHeld => ?_)
        · exact hSA
        clear hK K
        try simp only [Act.put, List.setIfInBounds_toArray, List.set_cons_zero, List.set_cons_succ]
        refine wpAnyH_ready (rs := [4]) (by kernel_rfl) (by simp) ?_
        refine AllReadyH.cons rfl (fun K hK => ?_) AllReadyH.nil
        go_simp; (refine (HK1.out _ _ hbA (ob.own.rd reads_I)).mono ?_); rintro e wB ⟨rfl, zB⟩; have sB := zB.size; have hbB := on hbA zB; have hSB := (⟨(zB.cell (p := ⟨w.heap.size, 0, none⟩) (by simp only []; omega)).trans hSA.1, (zB.cell (p := ⟨w.heap.size, 1, none⟩) (by simp only []; omega)).trans hSA.2.1, (zB.cell (p := ⟨w.heap.size, 2, none⟩) (by simp only []; omega)).trans hSA.2.2⟩ : (fun W => W.cell? ⟨w.heap.size, 0, none⟩ = some (.string s) ∧ W.cell? ⟨w.heap.size, 1, none⟩ = some (.int .i64 (N : Int)) ∧ W.cell? ⟨w.heap.size, 2, none⟩ = some (.slice ub un uc)) wB)
        refine hK.out _ _ ?_ (fun hHeld => ?_)
        · exact hSB
        clear hK K
        try simp only [Act.put, List.setIfInBounds_toArray, List.set_cons_zero, List.set_cons_succ]
        refine wpAnyH_take (i := 5) (v := ?v5_9) rfl (by kernel_rfl) (by kernel_rfl) (by kernel_rfl) (fun _ _ _ h => h) (Or.inl ⟨by rfl, ?hy5_9⟩) (by assumption) ?rest5_9
        case hy5_9 => intro w hSw; (try dsimp only at hSw); go_simp; (try with_reducible rfl)
        try simp only [Act.put, List.getElem_toArray, List.getElem_cons_succ, List.getElem_cons_zero, List.setIfInBounds_toArray, List.set_cons_zero, List.set_cons_succ]
        refine wpAnyH_done (by kernel_rfl) ?_ _
        refine NoPanic.normal ?_
        have zoB := on zA zB
        have hTB := (hTw.below zoB (Nat.le_refl _)).mono (show _ ≤ wB.heap.size by omega)
        obtain ⟨v_0, v_1, v_2⟩ := hSB
        have iks := rI_ints (hTB.snd.rd reads_I)
        have hkl : (minTo key m).length = kn := by have := iks.len; simpa [ints] using this
        have hkn8 : kn ≤ 8 := by omega
        have hB9 := hbB
        obtain ⟨pf, hpf⟩ : ∃ pf : Nat → Bool, pf = fun k => !decide (k &&& m = k) := ⟨_, rfl⟩
        have HPF := Lib.hid (show ∀ k, pf k = !decide (k &&& m = k) from fun k => by rw [hpf])
        obtain ⟨al, hal⟩ : ∃ al, (minTo key m).all pf = al := ⟨_, rfl⟩
        have HAL := Lib.hid hal
        have HAL0 : Hid ((minTo key m).all (fun k => !decide (k &&& m = k)) = al) := Lib.hid (by rw [← hal, hpf])
        have HPY : Hid (al = true → partsFrom key m N (N - 0) 0 = true) := Lib.hid (fun h9 => parts_yes (by omega) hN3 (by rw [← h9, ← hal, hpf]) N 0 (by omega))
        have HLT := Lib.hid (fun k (h9 : k ∈ minTo key m) => show k < 1000 by have := minTo_lt h9; omega)
        have H0 : Hid ((kk && (minTo key m).all pf) = (kk && ((minTo key m).drop 0).all pf)) := Lib.hid (by rw [List.drop_zero])
        clear hTw u_0 u_1 u_2 hSA ob hpf hal HK1 hmn
        go_wp2_with fail
        go_loopw [8, 9] (fun b i wr => ∃ (j : Nat) (q : Bool), j ≤ kn ∧ i = .int .i64 j ∧ b = .bool q ∧ Hid ((kk && (minTo key m).all pf) = (q && ((minTo key m).drop j).all pf)) ∧ Drew wB wr) (fun _ i _ => kn - (intOf i).toNat)
        case atStart => exact ⟨0, kk, Nat.zero_le _, rfl, rfl, H0.out, Drew.refl _⟩
        case round =>
          obtain ⟨j, q, hj, rfl, rfl, hQ, hdd⟩ := hrel
          have hdd9 := hdd
          clear H0
          by_cases hltj : j < kn
          · obtain ⟨b9, o9, x, rfl, hcx, hx, _, _⟩ := iks.get hltj
            obtain ⟨k, rfl, hk⟩ := ints_get (by omega) hx.out
            have cx : wr.cell? ⟨b9, o9 + j, none⟩ = some (.int .i64 (k : Int)) := (hdd.cell _).trans hcx
            have hk9 := HLT.out k (List.mem_of_getElem? hk)
            have HQ2 : Hid ((kk && (minTo key m).all pf) = ((q && pf k) && ((minTo key m).drop (j + 1)).all pf)) := Lib.hid (by rw [hQ.out, drop_at hk, List.all_cons, Bool.and_assoc])
            have hban := bits_and_nat k m (by omega) (by omega)
            have hne9 : (((k &&& m : Nat) : Int) != (k : Int)) = pf k := by rw [HPF.out, Bool.eq_iff_iff, bne_iff_ne]; simp; omega
            obtain ⟨pk, hpk⟩ : ∃ pk, pf k = pk := ⟨_, rfl⟩
            rw [hpk] at hne9 HQ2
            have hjk : (j : Int) < (kn : Int) := by omega
            clear hQ hcx hx hk hpk iks hdd hkl
            cases q with
            | false =>
              go_wp2_with fail
              go_quiet (fail)
              go_wp2_with fail
              go_roundw
              case rel => exact ⟨j + 1, false, by omega, by go_num, rfl, HQ2.out, hdd9.step _⟩
              case measure => simp [intOf]; omega
            | true =>
              go_wp2_with fail
              go_quiet (fail)
              clear hban hne9
              go_wp2_with fail
              go_roundw
              case rel => exact ⟨j + 1, pk, by omega, by go_num, rfl, HQ2.out, hdd9.step _⟩
              case measure => simp [intOf]; omega
          · have HC0 : Hid ((kk && al) = q) := Lib.hid (by rw [← HAL.out, hQ.out, List.drop_eq_nil_of_le (by omega)]; simp)
            obtain ⟨wc, rfl⟩ : ∃ W, W = wr := ⟨_, rfl⟩
            have hTC := hTB.below (hdd.below wB.heap.size) (Nat.le_refl _)
            have hsz := hdd.size
            replace hsz : wB.heap.size ≤ wc.heap.size := by omega
            have hbC := onD hbB hdd
            replace hTC := hTC.mono hsz
            replace v_0 := (hdd.cell _).trans v_0
            replace v_1 := (hdd.cell _).trans v_1
            replace v_2 := (hdd.cell _).trans v_2
            clear hQ hTB iks hkl hdd hdd9
            have HP0 : Hid ((q && partsFrom key m N (N - 0) 0) = (q && partsFrom key m N (N - 0) 0)) := Lib.hid rfl
            have hwc : Below wc.heap.size wc wc := Below.refl _ _
            have hww : w.heap.size < wc.heap.size := by omega
            go_wp2_with fail
            go_loopw [8, 10] (fun b i wr => ∃ (j : Nat) (r : Bool), j ≤ N ∧ i = .int .i64 j ∧ b = .bool r ∧ Hid ((q && partsFrom key m N (N - 0) 0) = (r && partsFrom key m N (N - j) j)) ∧ Below wc.heap.size wc wr) (fun _ i _ => N - (intOf i).toNat)
            case atStart => exact ⟨0, q, Nat.zero_le _, rfl, rfl, rfl, hwc⟩
            case round =>
              obtain ⟨j, r, hj, rfl, rfl, hR, hdr3⟩ := hrel
              clear HP0 hwc
              have h3s := hdr3.size
              have y_0 := (hdr3.cell (p := ⟨w.heap.size, 0, none⟩) hww).trans v_0
              have y_1 := (hdr3.cell (p := ⟨w.heap.size, 1, none⟩) hww).trans v_1
              have y_2 := (hdr3.cell (p := ⟨w.heap.size, 2, none⟩) hww).trans v_2
              have hb3 := on hbC hdr3
              by_cases hltj : j < N
              · have HR2 : Hid ((q && partsFrom key m N (N - 0) 0) = (r && ((!bitAt m j || !key (m - 2 ^ j)) && partsFrom key m N (N - (j + 1)) (j + 1)))) := Lib.hid (by rw [hR.out, parts_at hltj])
                have ht := bit_test0 m j (by omega)
                obtain ⟨bt, hbt⟩ : ∃ bt, bitAt m j = bt := ⟨_, rfl⟩
                rw [hbt] at ht HR2
                have HBT := Lib.hid hbt
                have hdrw := hdr3
                clear hR hbt v_0 v_1 v_2 hdr3
                cases r with
                | false =>
                  have HN3 : Hid ((q && partsFrom key m N (N - 0) 0) = (false && partsFrom key m N (N - (j + 1)) (j + 1))) := Lib.hid (by rw [HR2.out]; simp)
                  go_wp2_with fail
                  go_quiet (fail)
                  go_wp2_with fail
                  go_roundw
                  case rel => exact ⟨j + 1, false, by omega, by go_num, rfl, HN3.out, on hdrw (Drew.below ⟨_, rfl⟩ _)⟩
                  case measure => simp [intOf]; omega
                | true =>
                  cases bt with
                  | false =>
                    have HN3 : Hid ((q && partsFrom key m N (N - 0) 0) = (true && partsFrom key m N (N - (j + 1)) (j + 1))) := Lib.hid (by rw [HR2.out]; simp)
                    go_wp2_with fail
                    go_quiet (fail)
                    go_wp2_with fail
                    go_roundw
                    case rel => exact ⟨j + 1, true, by omega, by go_num, rfl, HN3.out, on hdrw (Drew.below ⟨_, rfl⟩ _)⟩
                    case measure => simp [intOf]; omega
                  | true =>
                    obtain ⟨Q, hQ9⟩ : ∃ Q, Q = 2 ^ j := ⟨_, rfl⟩
                    have hQm : Q ≤ m := by rw [hQ9]; exact less_of (by omega) (by omega) HBT.out
                    have hwj : IntKind.i64.wrap ((2 : Int) ^ j) = (Q : Int) := by rw [hQ9]; exact wrap_pow3' (by omega)
                    have hws : IntKind.i64.wrap ((m : Int) - (Q : Int)) = (m : Int) - (Q : Int) := IntWalk.i64_in _ (by constructor <;> (clear hwj; omega))
                    have HLSet := Lib.hid (fun W => l12Set_sub m Q hQm (by omega) W)
                    obtain ⟨kq, hkq⟩ : ∃ kq, key (m - Q) = kq := ⟨_, rfl⟩
                    have HK2 : Hid (∀ (v : Value) W, Below w.heap.size w W → rI.rep W [v] (bitsTo (m - Q) 3) → Calls Try.prog 69 #[.slice a n c, .agg #[.string s, .int .i64 (N : Int), .slice ub un uc], v] W fun e w' => e = .returned (.bool kq) ∧ Below W.heap.size W w') := Lib.hid (fun v W h1 h2 => by rw [← hkq]; exact HIK2.out v (m - Q) W h1 h2)
                    have HN3 : Hid ((q && partsFrom key m N (N - 0) 0) = (!kq && partsFrom key m N (N - (j + 1)) (j + 1))) := Lib.hid (by
                      have h9 := HR2.out
                      rw [← hQ9, hkq] at h9
                      rw [Bool.not_true, Bool.false_or, Bool.true_and] at h9
                      exact h9)
                    have hQi : (Q : Int) ≤ (m : Int) := Int.ofNat_le.2 hQm
                    clear hQ9 hkq HR2
                    go_wp2_with fail
                    refine wp_region_noPanic ?_
                    refine wp_region_held_drew (S := (fun W => W.cell? ⟨w.heap.size, 0, none⟩ = some (.string s) ∧ W.cell? ⟨w.heap.size, 1, none⟩ = some (.int .i64 (N : Int)) ∧ W.cell? ⟨w.heap.size, 2, none⟩ = some (.slice ub un uc))) (by kernel_rfl) ?hS10 (fun hHeld => ?_)
                    case hS10 => exact ⟨y_0, y_1, y_2⟩
                    refine wpAnyH_take (i := 0) (v := ?v0_11) rfl (by kernel_rfl) (by kernel_rfl) (by kernel_rfl) (fun _ _ _ h => h) (Or.inl ⟨by rfl, ?hy0_11⟩) (by assumption) ?rest0_11
                    case hy0_11 => intro w hSw; (try dsimp only at hSw); go_simp; (try with_reducible rfl)
                    try simp only [Act.put, List.getElem_toArray, List.getElem_cons_succ, List.getElem_cons_zero, List.setIfInBounds_toArray, List.set_cons_zero, List.set_cons_succ]
                    refine wpAnyH_take (i := 1) (v := ?v1_12) rfl (by kernel_rfl) (by kernel_rfl) (by kernel_rfl) (fun _ _ _ h => h) (Or.inl ⟨by rfl, ?hy1_12⟩) (by assumption) ?rest1_12
                    case hy1_12 => intro w hSw; (try dsimp only at hSw); go_simp; (try with_reducible rfl)
                    try simp only [Act.put, List.getElem_toArray, List.getElem_cons_succ, List.getElem_cons_zero, List.setIfInBounds_toArray, List.set_cons_zero, List.set_cons_succ]
                    refine wpAnyH_take (i := 2) (v := ?v2_13) rfl (by kernel_rfl) (by kernel_rfl) (by kernel_rfl) (fun _ _ _ h => h) (Or.inl ⟨by rfl, ?hy2_13⟩) (by assumption) ?rest2_13
                    case hy2_13 => intro w hSw; (try dsimp only at hSw); go_simp; (try with_reducible rfl)
                    try simp only [Act.put, List.getElem_toArray, List.getElem_cons_succ, List.getElem_cons_zero, List.setIfInBounds_toArray, List.set_cons_zero, List.set_cons_succ]
                    refine wpAnyH_take (i := 3) (v := ?v3_14) rfl (by kernel_rfl) (by kernel_rfl) (by kernel_rfl) (fun _ _ _ h => h) (Or.inl ⟨by rfl, ?hy3_14⟩) (by assumption) ?rest3_14
                    case hy3_14 => intro w hSw; (try dsimp only at hSw); go_simp; (try with_reducible rfl)
                    try simp only [Act.put, List.getElem_toArray, List.getElem_cons_succ, List.getElem_cons_zero, List.setIfInBounds_toArray, List.set_cons_zero, List.set_cons_succ]
                    refine wpAnyH_take (i := 4) (v := ?v4_15) rfl (by kernel_rfl) (by kernel_rfl) (by kernel_rfl) (fun _ _ _ h => h) (Or.inl ⟨by rfl, ?hy4_15⟩) (by assumption) ?rest4_15
                    case hy4_15 => intro w hSw; (try dsimp only at hSw); go_simp; (try with_reducible rfl)
                    try simp only [Act.put, List.getElem_toArray, List.getElem_cons_succ, List.getElem_cons_zero, List.setIfInBounds_toArray, List.set_cons_zero, List.set_cons_succ]
                    refine wpAnyH_take (i := 5) (v := ?v5_16) rfl (by kernel_rfl) (by kernel_rfl) (by kernel_rfl) (fun _ _ _ h => h) (Or.inl ⟨by rfl, ?hy5_16⟩) (by assumption) ?rest5_16
                    case hy5_16 => intro w hSw; (try dsimp only at hSw); go_simp; (try with_reducible rfl)
                    try simp only [Act.put, List.getElem_toArray, List.getElem_cons_succ, List.getElem_cons_zero, List.setIfInBounds_toArray, List.set_cons_zero, List.set_cons_succ]
                    refine wpAnyH_take (i := 6) (v := ?v6_17) rfl (by kernel_rfl) (by kernel_rfl) (by kernel_rfl) (fun _ _ _ h => h) (Or.inl ⟨by rfl, ?hy6_17⟩) (by assumption) ?rest6_17
                    case hy6_17 => intro w hSw; (try dsimp only at hSw); go_simp; (try with_reducible rfl)
                    try simp only [Act.put, List.getElem_toArray, List.getElem_cons_succ, List.getElem_cons_zero, List.setIfInBounds_toArray, List.set_cons_zero, List.set_cons_succ]
                    refine wpAnyH_take (i := 7) (v := ?v7_18) rfl (by kernel_rfl) (by kernel_rfl) (by kernel_rfl) (fun _ _ _ h => h) (Or.inl ⟨by rfl, ?hy7_18⟩) (by assumption) ?rest7_18
                    case hy7_18 => intro w hSw; (try dsimp only at hSw); go_simp; (try with_reducible rfl)
                    try simp only [Act.put, List.getElem_toArray, List.getElem_cons_succ, List.getElem_cons_zero, List.setIfInBounds_toArray, List.set_cons_zero, List.set_cons_succ]
                    refine wpAnyH_take (i := 8) (v := ?v8_19) rfl (by kernel_rfl) (by kernel_rfl) (by kernel_rfl) (fun _ _ _ h => h) (Or.inl ⟨by rfl, ?hy8_19⟩) (by assumption) ?rest8_19
                    case hy8_19 => intro w hSw; (try dsimp only at hSw); go_simp; (try with_reducible rfl)
                    try simp only [Act.put, List.getElem_toArray, List.getElem_cons_succ, List.getElem_cons_zero, List.setIfInBounds_toArray, List.set_cons_zero, List.set_cons_succ]
                    refine wpAnyH_take (i := 9) (v := ?v9_20) rfl (by kernel_rfl) (by kernel_rfl) (by kernel_rfl) (fun _ _ _ h => h) (Or.inl ⟨by rfl, ?hy9_20⟩) (by assumption) ?rest9_20
                    case hy9_20 => intro w hSw; (try dsimp only at hSw); go_simp; (try with_reducible rfl)
                    try simp only [Act.put, List.getElem_toArray, List.getElem_cons_succ, List.getElem_cons_zero, List.setIfInBounds_toArray, List.set_cons_zero, List.set_cons_succ]
                    refine wpAnyH_take (i := 10) (v := ?v10_21) rfl (by kernel_rfl) (by kernel_rfl) (by kernel_rfl) (fun _ _ _ h => h) (Or.inl ⟨by rfl, ?hy10_21⟩) (by assumption) ?rest10_21
                    case hy10_21 => intro w hSw; (try dsimp only at hSw); go_simp; (try with_reducible rfl)
                    try simp only [Act.put, List.getElem_toArray, List.getElem_cons_succ, List.getElem_cons_zero, List.setIfInBounds_toArray, List.set_cons_zero, List.set_cons_succ]
                    refine wpAnyH_take (i := 11) (v := ?v11_22) rfl (by kernel_rfl) (by kernel_rfl) (by kernel_rfl) (fun _ _ _ h => h) (Or.inl ⟨by rfl, ?hy11_22⟩) (by assumption) ?rest11_22
                    case hy11_22 => intro w hSw; (try dsimp only at hSw); go_simp; (try with_reducible rfl)
                    try simp only [Act.put, List.getElem_toArray, List.getElem_cons_succ, List.getElem_cons_zero, List.setIfInBounds_toArray, List.set_cons_zero, List.set_cons_succ]
                    refine wpAnyH_take (i := 12) (v := ?v12_23) rfl (by kernel_rfl) (by kernel_rfl) (by kernel_rfl) (fun _ _ _ h => h) (Or.inl ⟨by rfl, ?hy12_23⟩) (by assumption) ?rest12_23
                    case hy12_23 => intro w hSw; (try dsimp only at hSw); go_simp; (try with_reducible rfl)
                    try simp only [Act.put, List.getElem_toArray, List.getElem_cons_succ, List.getElem_cons_zero, List.setIfInBounds_toArray, List.set_cons_zero, List.set_cons_succ]
                    refine wpAnyH_take (i := 13) (v := ?v13_24) rfl (by kernel_rfl) (by kernel_rfl) (by kernel_rfl) (fun _ _ _ h => h) (Or.inl ⟨by rfl, ?hy13_24⟩) (by assumption) ?rest13_24
                    case hy13_24 => intro w hSw; (try dsimp only at hSw); go_simp; (try with_reducible rfl)
                    try simp only [Act.put, List.getElem_toArray, List.getElem_cons_succ, List.getElem_cons_zero, List.setIfInBounds_toArray, List.set_cons_zero, List.set_cons_succ]
                    clear hwj hws ht
                    refine wpAnyH_ready (rs := [14]) (by kernel_rfl) (by simp) ?_
                    refine AllReadyH.cons rfl (fun K hK => ?_) AllReadyH.nil
                    go_simp; (refine (HLSet.out _).mono ?_); rintro e wD ⟨lb, ln, lc, rfl, ol, zD⟩; replace zD : Below wr.heap.size wr wD := on (Below.refl _ _).drew zD; have sD := zD.size; have hbD := on hb3 zD; have hSD := (⟨(zD.cell (p := ⟨w.heap.size, 0, none⟩) (by simp only []; omega)).trans y_0, (zD.cell (p := ⟨w.heap.size, 1, none⟩) (by simp only []; omega)).trans y_1, (zD.cell (p := ⟨w.heap.size, 2, none⟩) (by simp only []; omega)).trans y_2⟩ : (fun W => W.cell? ⟨w.heap.size, 0, none⟩ = some (.string s) ∧ W.cell? ⟨w.heap.size, 1, none⟩ = some (.int .i64 (N : Int)) ∧ W.cell? ⟨w.heap.size, 2, none⟩ = some (.slice ub un uc)) wD)
                    refine hK.out _ _ ?_ (fun hHeld => ?_)
                    · exact hSD
                    clear hK K
                    try simp only [Act.put, List.setIfInBounds_toArray, List.set_cons_zero, List.set_cons_succ]
                    refine wpAnyH_ready (rs := [15]) (by kernel_rfl) (by simp) ?_
                    refine AllReadyH.cons rfl (fun K hK => ?_) AllReadyH.nil
                    go_simp; (refine (HK2.out _ _ hbD (ol.own.rd reads_I)).mono ?_); rintro e wE ⟨rfl, zE⟩; have sE := zE.size; have hbE := on hbD zE; have hSE := (⟨(zE.cell (p := ⟨w.heap.size, 0, none⟩) (by simp only []; omega)).trans hSD.1, (zE.cell (p := ⟨w.heap.size, 1, none⟩) (by simp only []; omega)).trans hSD.2.1, (zE.cell (p := ⟨w.heap.size, 2, none⟩) (by simp only []; omega)).trans hSD.2.2⟩ : (fun W => W.cell? ⟨w.heap.size, 0, none⟩ = some (.string s) ∧ W.cell? ⟨w.heap.size, 1, none⟩ = some (.int .i64 (N : Int)) ∧ W.cell? ⟨w.heap.size, 2, none⟩ = some (.slice ub un uc)) wE)
                    refine hK.out _ _ ?_ (fun hHeld => ?_)
                    · exact hSE
                    clear hK K
                    try simp only [Act.put, List.setIfInBounds_toArray, List.set_cons_zero, List.set_cons_succ]
                    refine wpAnyH_take (i := 16) (v := ?v16_25) rfl (by kernel_rfl) (by kernel_rfl) (by kernel_rfl) (fun _ _ _ h => h) (Or.inl ⟨by rfl, ?hy16_25⟩) (by assumption) ?rest16_25
                    case hy16_25 => intro w hSw; (try dsimp only at hSw); go_simp; (try with_reducible rfl)
                    try simp only [Act.put, List.getElem_toArray, List.getElem_cons_succ, List.getElem_cons_zero, List.setIfInBounds_toArray, List.set_cons_zero, List.set_cons_succ]
                    refine wpAnyH_take (i := 17) (v := ?v17_26) rfl (by kernel_rfl) (by kernel_rfl) (by kernel_rfl) (fun _ _ _ h => h) (Or.inl ⟨by rfl, ?hy17_26⟩) (by assumption) ?rest17_26
                    case hy17_26 => intro w hSw; (try dsimp only at hSw); go_simp; (try with_reducible rfl)
                    try simp only [Act.put, List.getElem_toArray, List.getElem_cons_succ, List.getElem_cons_zero, List.setIfInBounds_toArray, List.set_cons_zero, List.set_cons_succ]
                    refine wpAnyH_take (i := 18) (v := ?v18_27) rfl (by kernel_rfl) (by kernel_rfl) (by kernel_rfl) (fun _ _ _ h => h) (Or.inl ⟨by rfl, ?hy18_27⟩) (by assumption) ?rest18_27
                    case hy18_27 => intro w hSw; (try dsimp only at hSw); go_simp; (try with_reducible rfl)
                    try simp only [Act.put, List.getElem_toArray, List.getElem_cons_succ, List.getElem_cons_zero, List.setIfInBounds_toArray, List.set_cons_zero, List.set_cons_succ]
                    refine wpAnyH_take (i := 19) (v := ?v19_28) rfl (by kernel_rfl) (by kernel_rfl) (by kernel_rfl) (fun _ _ _ h => h) (Or.inl ⟨by rfl, ?hy19_28⟩) (by assumption) ?rest19_28
                    case hy19_28 => intro w hSw; (try dsimp only at hSw); go_simp; (try with_reducible rfl)
                    try simp only [Act.put, List.getElem_toArray, List.getElem_cons_succ, List.getElem_cons_zero, List.setIfInBounds_toArray, List.set_cons_zero, List.set_cons_succ]
                    refine wpAnyH_done (by kernel_rfl) ?_ _
                    refine NoPanic.normal ?_
                    have hdE := on hdrw (on zD zE)
                    clear hSD hSE
                    go_wp2_with fail
                    go_roundw
                    case rel => exact ⟨j + 1, !kq, by omega, by go_num, by simp, HN3.out, hdE⟩
                    case measure => simp [intOf]; omega
              · have hF : (q && partsFrom key m N (N - 0) 0) = r := by rw [hR.out, parts_end (by omega)]; simp
                have hTr := (hTC.below hdr3 (Nat.le_refl _)).mono h3s
                have HR9 : Hid (r = (kk && al)) := Lib.hid (by
                  have h1 := HC0.out
                  have h2 := HPY.out
                  rw [← hF, ← h1]
                  cases al
                  · simp
                  · rw [h2 rfl]; simp)
                clear hF hR
                cases r with
                | false =>
                  have HN : Hid (minTo key (m + 1) = minTo key m) := Lib.hid (min_no HAL0.out HKK.out HR9.out)
                  have HT9 := Lib.hid hTr
                  clear hTr hTC
                  go_wp2_with fail
                  go_roundw
                  case rel => exact ⟨m + 1, by omega, by go_num, by rw [HN.out]; exact HT9.out, ⟨y_0, y_1, y_2⟩, hb3, by omega⟩
                  case measure => simp [intOf]; omega
                | true =>
                  have HN : Hid (minTo key (m + 1) = minTo key m ++ [m]) := Lib.hid (min_yes HAL0.out HKK.out HR9.out)
                  go_wp2_with fail
                  refine (l12Set_any m _ (by omega)).mono ?_
                  rintro e wL ⟨lb, ln, lc, rfl, ol, zL⟩
                  have sL := zL.size
                  obtain ⟨va2, vn2, vc2, wO, hrO, hTO, hbO, hzO, hcO⟩ := Two.row 32 (hTr.below zL (Nat.le_refl _)) ol.own rfl (Nat.le_refl _) sL (Nat.le_refl _) (show w.heap.size < wr.heap.size by omega) (by omega) (by simp [setsOf]; omega) rfl
                  obtain ⟨ka2, kn2, kc2, wk, hrk, hTk, hbk, hzk, hck⟩ := Two.num 24 hTO (r := (m : Int)) ⟨by omega, by omega⟩ (Nat.le_refl _) (by omega) (by omega) (by simp [ints]; omega) rfl
                  have hT1 : w.heap.size < w1.heap.size := by omega
                  have cellk : ∀ (i : Nat) (x : Value), wr.cell? ⟨w.heap.size, i, none⟩ = some x → wk.cell? ⟨w.heap.size, i, none⟩ = some x := fun i x hx => (hbk.cell (p := ⟨w.heap.size, i, none⟩) hT1).trans ((hbO.cell (p := ⟨w.heap.size, i, none⟩) hT1).trans ((zL.cell (p := ⟨w.heap.size, i, none⟩) (show w.heap.size < wr.heap.size by omega)).trans hx))
                  have k_0 := cellk 0 _ y_0
                  have k_1 := cellk 1 _ y_1
                  have k_2 := cellk 2 _ y_2
                  rw [← setsOf_snoc, ← ints_snoc, ← HN.out] at hTk
                  have HT9 := Lib.hid hTk
                  have HB9 := Lib.hid (((hb3.trans (zL.mono (by omega))).trans (hbO.mono (by omega))).trans (hbk.mono (by omega)) : Below w.heap.size w wk)
                  clear hTr hTC hTO hTk ol cellk
                  go_wp2_with (first | (at_builtin; refine wpList_app_run hrO rfl rfl rfl rfl rfl ?_) | (at_builtin; refine wpList_app_run hrk rfl rfl rfl rfl rfl ?_))
                  go_roundw
                  case rel => exact ⟨m + 1, by omega, by go_num, HT9.out, ⟨k_0, k_1, k_2⟩, HB9.out, by omega⟩
                  case measure => simp [intOf]; omega
      · have hmP : m = P := by omega
        have HE : Hid (mk = setsOf (minTo key m)) := Lib.hid (by rw [HMK.out, hmP]; rfl)
        have HO := Lib.hid (hTw.fst.mono (lo' := w.heap.size) (hi' := wo.heap.size) (by omega) (by omega))
        clear hTw hmP
        go_wp2_with fail
        go_ret
        exact ⟨_, rfl, by rw [HE.out]; exact HO.out, hdr⟩

end Go.Proofs.Ytbkoddikfpkocaa

/- Plain: bounds of the least keys. -/
namespace Go.Proofs.Ytbkoddikfpkocaa
open Go.RowKit
set_option linter.unusedVariables false

theorem minKeys_bulk (ds : List DDp) (t : DT) : cnt_II (minKeys ds t) ≤ 200 ∧ bulk_II (minKeys ds t) ≤ 100 := by
  have h1 := minKeys_len ds t
  have h3 : sumBy bulk_I (minKeys ds t) ≤ (minKeys ds t).length * 3 := sumBy_bound (fun r hr => by
    unfold minKeys at hr
    split at hr
    · obtain ⟨m, _, rfl⟩ := List.mem_map.1 hr
      exact bitsTo_len m 3
    · cases hr)
  have h5 := cnt_le_II (minKeys ds t)
  have h4 : bulk_II (minKeys ds t) ≤ 100 := by unfold bulk_II; omega
  omega

end Go.Proofs.Ytbkoddikfpkocaa
