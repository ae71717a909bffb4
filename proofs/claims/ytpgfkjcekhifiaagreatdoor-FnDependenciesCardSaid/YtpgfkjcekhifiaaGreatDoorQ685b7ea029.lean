/- Texts joined for one claim: CloI2, CloA. -/
import Derived.Test.YtpgfkjcekhifiaaGreatDoorQ6748bab5ad
import Derived.Test.YtpgfkjcekhifiaaGreatDoorQ536b667b67
import Derived.Test.YtpgfkjcekhifiaaGreatDoorQ172172a568

namespace Go.Proofs.YtpgfkjcekhifiaaGreatDoor

open Go.RowKit

set_option linter.unusedVariables false

set_option linter.unusedSimpArgs false

set_option synthInstance.maxSize 2000

set_option synthInstance.maxHeartbeats 400000

set_option maxRecDepth 100000 in
set_option maxHeartbeats 4000000 in
theorem closure_impl (a : Option Addr) (n cap : Nat) (ds : List DDp) (name : ByteArray) (b : Option Addr) (cn cc : Nat) (cols : List Int) (w : World) (h : Sl rDp w a n ds) (h' : Ints w b cn cols) (hbf : ∀ f ∈ ds, f.2.1.length ≤ 1048576) :
    Calls Tryz.prog 13 #[.slice a n cap, .string name, .slice b cn cc] w fun e w' => ∃ u, e = .returned u ∧ Own oI w.heap.size w'.heap.size w' [u] (closure ds name cols) ∧ Below w.heap.size w w' := by
  have hl := h.len
  have hn := h.small
  have HBF := Lib.hid hbf
  obtain ⟨M, hM⟩ : ∃ M, M = maskIn cols := ⟨_, rfl⟩
  have hM8 : M < 8 := by rw [hM]; exact maskIn_lt cols
  have HMb := Lib.hid (show ∀ j : Nat, j < 3 → bitAt M j = has cols (j : Int) by rw [hM]; exact maskIn_bit cols)
  have HV : Hid (closure ds name cols = bitsTo (clo name ds M) 3) := Lib.hid (by rw [closure, hM])
  clear hM hbf
  have hb0 : Below w.heap.size w w := Below.refl _ _
  go_enter Tryz.func13, Tryz.ntmps13
  go_wp2_with fail
  obtain ⟨w1, hw1⟩ : ∃ W, W = w.alloc (.cells #[] 3) := ⟨_, rfl⟩
  have z1 : Below w.heap.size w w1 := by rw [hw1]; exact (Below.refl _ _).alloc (Nat.le_refl _) _
  have s1 : w1.heap.size = w.heap.size + 1 := by rw [hw1]; simp
  have hb1 := on hb0 z1
  have he : ∀ S, Acc 3 O.int w.heap.size S w1.heap.size w1 (.slice (some ⟨w.heap.size, 0, none⟩) 0 0) [] := fun S => by rw [hw1]; exact Acc.empty (by omega) (by first | (simp; done) | (simp; omega))
  go_wp2_with fail
  rw [← hw1]
  clear hw1
  go_loopw [7, 8] (fun v k wr => ∃ j : Nat, j ≤ 3 ∧ k = .int .i64 j ∧ Acc 3 O.int w.heap.size w1.heap.size wr.heap.size wr v (bitsTo M j) ∧ Turn w.heap.size (w.heap.size + 1) w1 wr) (fun _ k _ => 3 - (intOf k).toNat)
  case atStart => exact ⟨0, Nat.zero_le _, rfl, (he _).wide (Nat.le_refl _) (by omega), turn_refl _ _ _⟩
  case round =>
    obtain ⟨j, hj, rfl, hacc, hdr⟩ := hrel
    have hlc := hdr
    obtain ⟨wo, rfl⟩ : ∃ W, W = wr := ⟨_, rfl⟩
    have hbx := (hb1).trans ((hdr.below (by omega)).mono (by omega))
    have sx := hdr.size
    have hbl := bitsTo_len M j
    by_cases hlt : j < 3
    · have hcc := contains_any b cn cc cols (j : Int) wo (h'.below hbx)
      rw [← HMb.out j hlt] at hcc
      obtain ⟨t, ht⟩ : ∃ t, t = bitAt M j := ⟨_, rfl⟩
      rw [← ht] at hcc
      have HC := Lib.hid hcc
      clear hcc
      cases t with
      | true =>
        have HB := Lib.hid (bitsTo_yes ht.symm)
        clear ht h h' hl
        go_wp2_with (first
          | (go_at_call 39; refine (HC.out).mono ?_; rintro e w' ⟨rfl, rfl⟩)
          | (at_builtin; refine wpList_accI _ _ _ _ _ hacc hlc rfl (by omega) (Nat.le_refl _) ⟨by omega, by omega⟩ (by omega) rfl rfl rfl rfl rfl ?_; intro v' w1 hacc' ht' hsz'))
        rw [← HB.out] at hacc'
        go_roundw
        case rel => exact ⟨j + 1, by omega, by go_num, hacc', ht'⟩
        case measure => simp [intOf]; omega
      | false =>
        rw [← bitsTo_no ht.symm] at hacc
        have HO := Lib.hid hacc
        clear ht h h' hl hacc
        go_wp2_with (go_at_call 39; refine (HC.out).mono ?_; rintro e w' ⟨rfl, rfl⟩)
        go_roundw
        case rel => exact ⟨j + 1, by omega, by go_num, HO.out, hlc⟩
        case measure => simp [intOf]; omega
    · have hj3 : j = 3 := by omega
      rw [hj3] at hacc
      have hgot := got_bits hM8
      obtain ⟨g0, hg0⟩ : ∃ g, g = bitsTo M 3 := ⟨_, rfl⟩
      rw [← hg0] at hacc hgot
      have HG := Lib.hid hgot
      have HA := Lib.hid hacc
      clear hacc hgot hg0 hbl HMb h' hj3
      go_wp2_with fail
      go_loopw [7, 9] (fun v k wr => ∃ (m : Nat) (g : List Int) (again : Bool), Hid (Got g m) ∧ k = .bool again ∧ Hid (closure ds name cols = bitsTo (clo name ds m) 3) ∧ Hid (again = false → passM name ds m = m) ∧ Acc 3 O.int w.heap.size w1.heap.size wr.heap.size wr v g ∧ Turn w.heap.size (w.heap.size + 1) w1 wr) (fun v k _ => (3 - lenOf v) * 2 + flagOf k)
      case atStart => exact ⟨M, g0, true, HG, rfl, HV, Lib.hid (fun h => by cases h), HA.out, hlc⟩
      case round =>
        obtain ⟨m, g, again, hG, rfl, hE, hst, hacc, hdr⟩ := hrel
        have hld := hdr
        obtain ⟨wi, rfl⟩ : ∃ W, W = wr := ⟨_, rfl⟩
        clear HA HG HV
        have hbz := (hb1).trans ((hdr.below (by omega)).mono (by omega))
        have sz := hdr.size
        obtain ⟨va, vcap, rfl⟩ := hacc.form
        have hgl := hG.out.len
        cases again with
        | false =>
          have HR : Hid (closure ds name cols = bitsTo m 3) := Lib.hid (by rw [hE.out, clo_stop (hst.out rfl)])
          have HO := Lib.hid (hacc.own (B := w.heap.size) (by omega) (by omega) (Nat.le_refl _))
          have hszb := (hbz).size
          clear hacc hst hE h hl
          go_wp2_with fail
          refine (sortI_any _ _ _ _ _ HO.out (by omega) hszb).mono ?_
          rintro e wE ⟨rfl, o3, zE⟩
          have sE := zE.size
          go_wp2_with fail
          go_ret
          exact ⟨_, rfl, by rw [HR.out, ← hG.out.sorted (by unfold sortL; exact List.mergeSort_perm _ _) (sortL_pair _)]; exact o3.mono (Nat.le_refl _) (by omega), (hbz).trans zE⟩
        | true =>
          have HP : Hid (passM name ds m = passM name (ds.drop 0) m) := rfl
          go_wp2_with fail
          go_loopw [7, 9, 28] (fun v k i wr => ∃ (j m' : Nat) (g' : List Int) (again : Bool), j ≤ n ∧ i = .int .i64 j ∧ Hid (Got g' m') ∧ k = .bool again ∧ Hid (passM name ds m = passM name (ds.drop j) m') ∧ Hid (again = false → m' = m ∧ g'.length = g.length) ∧ Hid (again = true → g.length < g'.length) ∧ Acc 3 O.int w.heap.size w1.heap.size wr.heap.size wr v g' ∧ Turn w.heap.size (w.heap.size + 1) w1 wr) (fun _ _ i _ => n - (intOf i).toNat)
          case atStart => exact ⟨0, m, g, false, Nat.zero_le _, rfl, hG, rfl, HP, Lib.hid (fun _ => ⟨rfl, rfl⟩), Lib.hid (fun h => by cases h), hacc, hld⟩
          case round =>
            obtain ⟨i, m', g', again, hi, rfl, hG', rfl, hF, hno, hyes, hacc', hdr⟩ := hrel
            have hle := hdr
            clear HP hacc
            have hby := (hb1).trans ((hdr.below (by omega)).mono (by omega))
            have sy := hdr.size
            obtain ⟨va', vcap', rfl⟩ := hacc'.form
            have hgl' := hG'.out.len
            by_cases hlti : i < n
            · obtain ⟨b1, o1, cs, f, rfl, hx, hr, hc⟩ := h.at hlti
              obtain ⟨m1, fr, to⟩ := f
              obtain ⟨fb, fn, fc, rfl, hs0, gf, hto⟩ := rDp_open hr
              simp only at hs0 gf hto
              have i0 := rI_ints gf
              obtain ⟨hfc1, hfc2⟩ := rS_cap gf
              have hfl := i0.len
              have hbfl : fr.length ≤ 1048576 := HBF.out _ (List.mem_of_getElem? hx.out)
              have e_lt : b1 < w.heap.size := cell_lt (hc 0 _ rfl)
              have e_0 : wr.cell? ⟨b1, o1 + i * 3, none⟩ = some (.string m1) := (hby.cell (p := ⟨b1, o1 + i * 3, none⟩) e_lt).trans (by have h9 := hc 0 _ rfl; rw [← Nat.add_assoc] at h9; exact h9)
              have e_1 : wr.cell? ⟨b1, o1 + i * 3 + 1, none⟩ = some (.slice fb fn fc) := (hby.cell (p := ⟨b1, o1 + i * 3 + 1, none⟩) e_lt).trans (by have h9 := hc 1 _ rfl; rw [← Nat.add_assoc] at h9; exact h9)
              have e_2 : wr.cell? ⟨b1, o1 + i * 3 + 2, none⟩ = some (.int .i64 to) := (hby.cell (p := ⟨b1, o1 + i * 3 + 2, none⟩) e_lt).trans (by have h9 := hc 2 _ rfl; rw [← Nat.add_assoc] at h9; exact h9)
              have HS := Lib.hid (hF.out.trans (passM_at hx.out))
              clear hc hx hr hs0 hF hl
              obtain ⟨w2, hw2⟩ : ∃ W, W = wr.alloc (.cells #[.string m1, .slice fb fn fc, .int .i64 to] 29) := ⟨_, rfl⟩
              have z2 : Below wr.heap.size wr w2 := by rw [hw2]; exact (Below.refl _ _).alloc (Nat.le_refl _) _
              have s2 : w2.heap.size = wr.heap.size + 1 := by rw [hw2]; simp
              have hb2 := on hby z2
              have old2_e_0 := e_0
              have old2_e_1 := e_1
              have old2_e_2 := e_2
              replace e_0 := bxc z2 e_0
              replace e_1 := bxc z2 e_1
              replace e_2 := bxc z2 e_2
              replace hacc' := hacc'.below z2 (by omega)
              replace hle := hle.trans (turn_below z2 (Nat.le_refl _))
              have f_0 : w2.cell? ⟨wr.heap.size, 0, none⟩ = some (.string m1) := by rw [hw2]; exact box_cell (Below.refl _ _) rfl
              have f_1 : w2.cell? ⟨wr.heap.size, 1, none⟩ = some (.slice fb fn fc) := by rw [hw2]; exact box_cell (Below.refl _ _) rfl
              have f_2 : w2.cell? ⟨wr.heap.size, 2, none⟩ = some (.int .i64 to) := by rw [hw2]; exact box_cell (Below.refl _ _) rfl
              have raw2_e_0 := e_0
              have raw2_e_1 := e_1
              have raw2_e_2 := e_2
              have raw2_f_0 := f_0
              have raw2_f_1 := f_1
              have raw2_f_2 := f_2
              rw [hw2] at raw2_e_0 raw2_e_1 raw2_e_2 raw2_f_0 raw2_f_1 raw2_f_2
              have hic := fun W => isColumn_any to W
              have hof := fun W (hW : Below w.heap.size w W) => outFn_any fb fn fc fr W (i0.below hW)
              obtain ⟨p, hp⟩ : ∃ p, betw to 0 2 = p := ⟨_, rfl⟩
              obtain ⟨q, hq⟩ : ∃ q, fr.all (fun c => betw c 0 2) = q := ⟨_, rfl⟩
              have hgg : g.length ≤ g'.length := by
                cases again with
                | false => have := (hno.out rfl).2; omega
                | true => have := hyes.out rfl; omega
              have HST : Hid (passM name ds m = passM name (ds.drop (i + 1)) (if (decide (m1 = name) && (p && q)) && subM m' fr then m' ||| 2 ^ to.toNat else m')) := Lib.hid (by rw [HS.out, stepM, depIn, hp, hq])
              have HTO : Hid (p = true → 0 ≤ to ∧ to ≤ 2) := Lib.hid (fun h => by rw [h] at hp; simpa [betw] using hp)
              have HFR : Hid (q = true → ∀ c ∈ fr, 0 ≤ c ∧ c ≤ 2) := Lib.hid (fun h => by rw [h] at hq; intro c hc; have := List.all_eq_true.1 hq c hc; simpa [betw] using this)
              simp only [hp] at hic
              simp only [hq] at hof
              have HIC := Lib.hid hic
              have HOF := Lib.hid hof
              clear hic hof hp hq HS
              go_wp2_with fail
              rw [← hw2]
              clear hw2
              clear old2_e_0 old2_e_1 old2_e_2 raw2_e_0 raw2_e_1 raw2_e_2 raw2_f_0 raw2_f_1 raw2_f_2
              refine (HIC.out _).mono ?_
              rintro e w' ⟨rfl, rfl⟩
              cases p with
              | false =>
                have HN : Hid (passM name ds m = passM name (ds.drop (i + 1)) m') := Lib.hid (by rw [HST.out]; simp)
                by_cases hnm : m1 = name
                · have hq9 : (m1.toList == name.toList) = true := by rw [hnm]; simp
                  clear hnm
                  go_wp2_with fail
                  go_roundw
                  case rel => exact ⟨i + 1, m', g', again, by omega, by go_num, hG', rfl, HN.out, hno, hyes, hacc'.wide (Nat.le_refl _) (by omega), hle⟩
                  case measure => simp [intOf]; omega
                · have hq9 := bytes_ne hnm
                  clear hnm
                  go_wp2_with fail
                  go_roundw
                  case rel => exact ⟨i + 1, m', g', again, by omega, by go_num, hG', rfl, HN.out, hno, hyes, hacc'.wide (Nat.le_refl _) (by omega), hle⟩
                  case measure => simp [intOf]; omega
              | true =>
                go_wp2_with fail
                refine (HOF.out _ hb2).mono ?_
                rintro e w' ⟨rfl, rfl⟩
                cases q with
                | false =>
                  have HN : Hid (passM name ds m = passM name (ds.drop (i + 1)) m') := Lib.hid (by rw [HST.out]; simp)
                  by_cases hnm : m1 = name
                  · have hq9 : (m1.toList == name.toList) = true := by rw [hnm]; simp
                    clear hnm
                    go_wp2_with fail
                    go_roundw
                    case rel => exact ⟨i + 1, m', g', again, by omega, by go_num, hG', rfl, HN.out, hno, hyes, hacc'.wide (Nat.le_refl _) (by omega), hle⟩
                    case measure => simp [intOf]; omega
                  · have hq9 := bytes_ne hnm
                    clear hnm
                    go_wp2_with fail
                    go_roundw
                    case rel => exact ⟨i + 1, m', g', again, by omega, by go_num, hG', rfl, HN.out, hno, hyes, hacc'.wide (Nat.le_refl _) (by omega), hle⟩
                    case measure => simp [intOf]; omega
                | true =>
                  by_cases hnm : m1 = name
                  case neg =>
                    have HN : Hid (passM name ds m = passM name (ds.drop (i + 1)) m') := Lib.hid (by rw [HST.out]; simp [hnm])
                    have hq9 := bytes_ne hnm
                    clear hnm
                    go_wp2_with fail
                    go_roundw
                    case rel => exact ⟨i + 1, m', g', again, by omega, by go_num, hG', rfl, HN.out, hno, hyes, hacc'.wide (Nat.le_refl _) (by omega), hle⟩
                    case measure => simp [intOf]; omega
                  have hq9 : (m1.toList == name.toList) = true := by rw [hnm]; simp
                  have HST2 : Hid (passM name ds m = passM name (ds.drop (i + 1)) (if subM m' fr then m' ||| 2 ^ to.toNat else m')) := Lib.hid (by rw [HST.out]; simp [hnm])
                  clear hnm HST
                  have hha := hasAll_any _ _ g' fr _ ((hacc'.own (B := w.heap.size) (Nat.le_refl _) (by omega) (Nat.le_refl _)).rd reads_I) (rI_mk (i0.below hb2) hfc1 hfc2) hbfl
                  rw [hG'.out.sub (HFR.out rfl)] at hha
                  obtain ⟨u, hu⟩ : ∃ u, subM m' fr = u := ⟨_, rfl⟩
                  rw [hu] at hha HST2
                  have HHA := Lib.hid hha
                  clear hha hu
                  go_wp2_with fail
                  refine HHA.out.mono ?_
                  rintro e wG ⟨rfl, zG⟩
                  have s3 := zG.size
                  have hb3 := on hb2 zG
                  replace e_0 := bxc zG e_0
                  replace e_1 := bxc zG e_1
                  replace e_2 := bxc zG e_2
                  replace hacc' := hacc'.below zG (by omega)
                  replace hle := hle.trans (turn_below zG (Nat.le_refl _))
                  replace f_0 := bxc zG f_0
                  replace f_1 := bxc zG f_1
                  replace f_2 := bxc zG f_2
                  clear HHA
                  cases u with
                  | false =>
                    have HN : Hid (passM name ds m = passM name (ds.drop (i + 1)) m') := Lib.hid (by rw [HST2.out]; simp)
                    go_wp2_with fail
                    go_roundw
                    case rel => exact ⟨i + 1, m', g', again, by omega, by go_num, hG', rfl, HN.out, hno, hyes, hacc'.wide (Nat.le_refl _) (by omega), hle⟩
                    case measure => simp [intOf]; omega
                  | true =>
                    have hct := contains_any _ _ vcap' g' to _ (rI_ints ((hacc'.own (B := w.heap.size) (Nat.le_refl _) (by omega) (Nat.le_refl _)).rd reads_I))
                    obtain ⟨t, ht⟩ : ∃ t, has g' to = t := ⟨_, rfl⟩
                    rw [ht] at hct
                    have HCT := Lib.hid hct
                    clear hct
                    have hto3 := HTO.out (by trivial)
                    cases t with
                    | true =>
                      have HN : Hid (passM name ds m = passM name (ds.drop (i + 1)) m') := Lib.hid (by rw [HST2.out, if_pos rfl, hG'.out.old hto3 ht])
                      clear ht
                      go_wp2_with (go_at_call 39; refine (HCT.out).mono ?_; rintro e w' ⟨rfl, rfl⟩)
                      go_roundw
                      case rel => exact ⟨i + 1, m', g', again, by omega, by go_num, hG', rfl, HN.out, hno, hyes, hacc'.wide (Nat.le_refl _) (by omega), hle⟩
                      case measure => simp [intOf]; omega
                    | false =>
                      have HN : Hid (passM name ds m = passM name (ds.drop (i + 1)) (m' ||| 2 ^ to.toNat)) := Lib.hid (by rw [HST2.out, if_pos rfl])
                      have HG2 := Lib.hid (hG'.out.add hto3 ht)
                      have HL2 : Hid (g.length < (g' ++ [to]).length) := Lib.hid (by rw [List.length_append]; simp; omega)
                      clear ht
                      go_wp2_with (first
                        | (go_at_call 39; refine (HCT.out).mono ?_; rintro e w' ⟨rfl, rfl⟩)
                        | (at_builtin; refine wpList_accI _ _ _ _ _ hacc' hle rfl (by omega) (by omega) ⟨by omega, by omega⟩ (by omega) rfl rfl rfl rfl rfl ?_; intro v' w1 hacc2 ht2 hsz2))
                      go_roundw
                      case rel => exact ⟨i + 1, _, g' ++ [to], true, by omega, by go_num, HG2, rfl, HN.out, Lib.hid (fun h => by cases h), Lib.hid (fun _ => HL2.out), hacc2, ht2⟩
                      case measure => simp [intOf]; omega
            · have HE : Hid (passM name ds m = m') := Lib.hid (hF.out.trans (passM_end (by omega)))
              clear hF
              cases again with
              | false =>
                obtain ⟨hmm, hll⟩ := hno.out rfl
                subst hmm
                have HQ : Hid (false = false → passM name ds m' = m') := Lib.hid (fun _ => HE.out)
                clear hno hyes hst hG
                go_wp2_with fail
                first
                  | (go_roundw; (case rel => exact ⟨m', g', false, hG', rfl, hE, HQ, hacc', hle⟩); (case measure => (simp [lenOf, flagOf]; omega)))
                  | fail "R1"
              | true =>
                have hll := hyes.out rfl
                have HQ : Hid (closure ds name cols = bitsTo (clo name ds m') 3) := Lib.hid (by rw [hE.out, ← HE.out, clo_pass hG.out.lt])
                clear hno hyes hst hE
                go_wp2_with fail
                first
                  | (go_roundw; (case rel => exact ⟨m', g', true, hG', rfl, HQ, Lib.hid (fun h => by cases h), hacc', hle⟩); (case measure => (simp [lenOf, flagOf]; omega)))
                  | fail "R2"

end Go.Proofs.YtpgfkjcekhifiaaGreatDoor

namespace Go.Proofs.YtpgfkjcekhifiaaGreatDoor

open Go.RowKit

set_option linter.unusedVariables false

set_option linter.unusedSimpArgs false

theorem bulk_Dl_mem {ds : List DDp} (hb : bulk_Dl ds ≤ 1048576) : ∀ f ∈ ds, f.2.1.length ≤ 1000000000 ∧ f.2.1.length ≤ 1048576 := by
  intro f hf
  obtain ⟨j, hj, rfl⟩ := List.mem_iff_getElem.1 hf
  have h1 := sumBy_mem bulk_Dp (List.getElem?_eq_getElem hj)
  have h2 : bulk_Dp ds[j] = ds[j].1.size + bulk_I ds[j].2.1 := rfl
  have h3 : bulk_I ds[j].2.1 = ds[j].2.1.length := rfl
  have h4 : bulk_Dl ds = ds.length + sumBy bulk_Dp ds := rfl
  omega

theorem closure_spec' (u v : Value) (ds : List DDp) (name : ByteArray) (cols : List Int) (w : World) (h : rDl.rep w [u] ds) (h' : rI.rep w [v] cols) :
    Calls Tryz.prog 14 #[u, .string name, v] w fun e w' => ∃ u, e = .returned u ∧ Own oI w.heap.size w'.heap.size w' [u] (closure ds name cols) ∧ Below w.heap.size w w' := by
  obtain ⟨a, n, c, hv⟩ := rS_form h
  simp at hv; subst hv
  obtain ⟨b, m, d, hv⟩ := rI_form h'
  simp at hv; subst hv
  exact closure_spec a n c ds name b m d cols w (rS_sl h) (rI_ints h')

theorem closure_impl' (u v : Value) (ds : List DDp) (name : ByteArray) (cols : List Int) (w : World) (h : rDl.rep w [u] ds) (h' : rI.rep w [v] cols) (hb : bulk_Dl ds ≤ 1048576) :
    Calls Tryz.prog 13 #[u, .string name, v] w fun e w' => ∃ u, e = .returned u ∧ Own oI w.heap.size w'.heap.size w' [u] (closure ds name cols) ∧ Below w.heap.size w w' := by
  obtain ⟨a, n, c, hv⟩ := rS_form h
  simp at hv; subst hv
  obtain ⟨b, m, d, hv⟩ := rI_form h'
  simp at hv; subst hv
  exact closure_impl a n c ds name b m d cols w (rS_sl h) (rI_ints h') (fun f hf => (bulk_Dl_mem hb f hf).2)

end Go.Proofs.YtpgfkjcekhifiaaGreatDoor
