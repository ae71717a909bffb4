/- Texts joined for one claim: IncF, DepF, ParI, ValL, ParDP, ParD. -/
import Derived.Test.YtpgfkjcekhifiaaGreatDoorQc913c7a46f
import Derived.Test.YtpgfkjcekhifiaaGreatDoorQ6218e9c564
import Derived.Test.YtpgfkjcekhifiaaGreatDoorQ6748bab5ad
import Derived.Test.YtpgfkjcekhifiaaGreatDoorQe58ef1fdfa
import Derived.Test.YtpgfkjcekhifiaaGreatDoorQ172172a568
import Derived.Deep.RegionHeld3

namespace Go.Proofs.YtpgfkjcekhifiaaGreatDoor

open Go.RowKit

set_option linter.unusedVariables false

set_option linter.unusedSimpArgs false

set_option synthInstance.maxSize 2000

set_option synthInstance.maxHeartbeats 400000

theorem bs_of' (s : ByteArray) : bs s.data.toList = s := by
  apply ByteArray.ext
  simp [bs]

theorem name_len' {ml : List UInt8} (h : nameB (bs ml) = true) : ml.length = 1 := by
  simp only [nameB, Bool.and_eq_true, decide_eq_true_eq] at h
  have := h.1
  rwa [bs_size] at this

theorem dec_one {d : Nat} (h : d ≤ 9) : Lib.decDigits d = [chD (d : Int)] := by
  rcases (by omega : d = 0 ∨ d = 1 ∨ d = 2 ∨ d = 3 ∨ d = 4 ∨ d = 5 ∨ d = 6 ∨ d = 7 ∨ d = 8 ∨ d = 9) with rfl | rfl | rfl | rfl | rfl | rfl | rfl | rfl | rfl | rfl <;> decide +kernel

theorem fmtI_dig (d : Nat) (hd : d ≤ 9) (w : World) :
    Calls Tryz.prog 62 #[.int .i64 (d : Int)] w fun e w' => e = .returned (.string (bs [chD (d : Int)])) ∧ Below w.heap.size w w' := by
  have HI := Lib.hid (Tryz.strconv_Itoa_small d (by omega) w)
  rw [dec_one hd] at HI
  go_enter Tryz.func62, Tryz.ntmps62
  go_wp2_with fail
  refine HI.out.mono ?_
  rintro e w' ⟨rfl, rfl⟩
  go_wp2_with fail
  go_ret
  exact ⟨by rfl, Below.refl _ _⟩

theorem isCol_any (v : Int) (w : World) :
    Calls Tryz.prog 43 #[.int .i64 v] w fun e w' => e = .returned (.bool (betw v 0 2)) ∧ w = w' := by
  have HI := Lib.hid (within_any v 0 2 w)
  go_enter Tryz.func43, Tryz.ntmps43
  go_wp2_with fail
  refine HI.out.mono ?_
  rintro e w' ⟨rfl, rfl⟩
  go_wp2_with fail
  go_ret
  exact ⟨by rfl, rfl⟩

end Go.Proofs.YtpgfkjcekhifiaaGreatDoor

namespace Go.Proofs.YtpgfkjcekhifiaaGreatDoor

open Go.RowKit

set_option linter.unusedVariables false

set_option linter.unusedSimpArgs false

set_option synthInstance.maxSize 2000

set_option synthInstance.maxHeartbeats 400000

theorem cols_range {m p : Int} {xs : List Int} (h : colsFrom m p xs = true) : ∀ x ∈ xs, 0 ≤ x ∧ x ≤ m - 1 := by
  induction xs generalizing p with
  | nil => simp
  | cons v t ih =>
    simp only [colsFrom, Bool.and_eq_true] at h
    intro x hx
    rcases List.mem_cons.1 hx with rfl | hx
    · have := h.1.1
      simpa [betw] using this
    · exact ih h.2 x hx

set_option maxHeartbeats 2000000 in
theorem l12Rises_any (a : Option Addr) (n cap : Nat) (xs : List Int) (w : World) (h : Ints w a n xs) :
    Calls Tryz.prog 84 #[.slice a n cap] w fun e w' => e = .returned (.bool (colsB 3 xs)) ∧ Below w.heap.size w w' := by
  have hl := h.len
  have hn := h.small
  obtain ⟨B, hB⟩ : ∃ B, colsB 3 xs = B := ⟨_, rfl⟩
  have HV : Hid (B = colsFrom 3 (prevOf xs 0) (xs.drop 0)) := Lib.hid (by rw [← hB]; simp [colsB, prevOf])
  rw [hB]
  clear hB
  have hb0 : Below w.heap.size w w := Below.refl _ _
  go_enter Tryz.func84, Tryz.ntmps84
  go_wp2_with fail
  go_loopw [3] (fun k wr => ∃ j : Nat, j ≤ n ∧ k = .int .i64 j ∧ Hid (B = colsFrom 3 (prevOf xs j) (xs.drop j)) ∧ Drew w wr) (fun k _ => n - (intOf k).toNat)
  case atStart => exact ⟨0, Nat.zero_le _, rfl, HV.out, Drew.refl _⟩
  case round =>
    obtain ⟨j, hj, rfl, hE, hdr⟩ := hrel
    have hlc := hdr
    replace hdr : Below w.heap.size w wr := hdr.below _
    have hb2 := hdr
    by_cases hlt : j < n
    · obtain ⟨b0, o0, x, rfl, hc, hx, _, _⟩ := h.get hlt
      have c0_lt : b0 < w.heap.size := cell_lt hc
      have c0 : wr.cell? ⟨b0, o0 + j, none⟩ = some (.int .i64 x) := (hb2.cell (p := ⟨b0, o0 + j, none⟩) c0_lt).trans hc
      have HA := Lib.hid (hE.out.trans (by rw [cols_at (by omega) hx.out, show (3 : Int) - 1 = 2 by omega]))
      clear hE HV hl
      have hcall := fun q => l1In_any x 0 2 (wr.drewN q)
      by_cases hb : betw x 0 2 = true
      case neg =>
        replace hb : betw x 0 2 = false := by simpa using hb
        have HE := Lib.hid (show B = false by rw [HA.out]; simp [hb])
        rw [hb] at hcall
        have HC := Lib.hid hcall
        clear h hb hcall
        go_wp2_with fail
        go_quiet ((go_at_call 35; exact quiet_same (HC.out _)))
        go_wp2_with fail
        go_ret
        exact ⟨ret_bool HE.out.symm, onD hb2 ⟨_, rfl⟩⟩
      have hx0 := betw_pos hb
      have H0 := Lib.hid hb
      rw [hb] at hcall
      have HC := Lib.hid hcall
      clear hb hcall
      by_cases hj0 : j = 0
      · subst hj0
        have HE := Lib.hid (show B = colsFrom 3 (prevOf xs (0 + 1)) (xs.drop (0 + 1)) by
          rw [HA.out, show prevOf xs (0 + 1) = x from hx.out, H0.out, show decide (prevOf xs 0 < x) = true from decide_eq_true (show (-1 : Int) < x by omega)]; simp)
        have c0' : wr.cell? ⟨b0, o0, none⟩ = some (.int .i64 x) := c0
        clear h hx HA
        go_wp2_with fail
        go_quiet ((go_at_call 35; exact quiet_same (HC.out _)))
        go_wp2_with fail
        go_roundw
        case rel => exact ⟨1, by omega, rfl, HE.out, hlc.step _⟩
        case measure => simp [intOf]; omega
      obtain ⟨i, rfl⟩ : ∃ i, j = i + 1 := ⟨j - 1, by omega⟩
      obtain ⟨b9, o9, y, hb9, hcy, hy, _, _⟩ := h.get (show i < n by omega)
      simp at hb9
      obtain ⟨rfl, rfl⟩ := hb9
      have cy_lt : b0 < w.heap.size := cell_lt hcy
      have cy : wr.cell? ⟨b0, o0 + i, none⟩ = some (.int .i64 y) := (hb2.cell (p := ⟨b0, o0 + i, none⟩) cy_lt).trans hcy
      have hp : prevOf xs (i + 1) = y := hy.out
      rw [hp] at HA
      have hi63 : IntKind.i64.wrap (i : Int) = (i : Int) := IntWalk.i64_in _ (by omega)
      by_cases hxy : y < x
      · have HE := Lib.hid (show B = colsFrom 3 (prevOf xs (i + 1 + 1)) (xs.drop (i + 1 + 1)) by
          rw [HA.out, show prevOf xs (i + 1 + 1) = x from hx.out, H0.out, decide_eq_true hxy]; simp)
        clear h hx HA hp hj0 hc hcy
        go_wp2_with fail
        go_quiet ((go_at_call 35; exact quiet_same (HC.out _)))
        clear hi63
        go_wp2_with fail
        go_roundw
        case rel => exact ⟨i + 1 + 1, by omega, by go_num, HE.out, hlc.step _⟩
        case measure => simp [intOf]; omega
      · have HE := Lib.hid (show B = false by rw [HA.out]; simp [hxy])
        clear h hx HA hp hj0 hc hcy
        go_wp2_with fail
        go_quiet ((go_at_call 35; exact quiet_same (HC.out _)))
        clear hi63
        go_wp2_with fail
        go_ret
        exact ⟨ret_bool HE.out.symm, onD hb2 ⟨_, rfl⟩⟩
    · have HW : Hid (B = true) := Lib.hid (by rw [hE.out, cols_end (by omega)])
      clear hE HV h hl
      go_wp2_with fail
      go_ret
      exact ⟨ret_bool HW.out.symm, hb2⟩

def okDp (x : DDp) : Bool := nameB x.1 && (colsB 3 x.2.1 && (betw x.2.2 0 2 && !has x.2.1 x.2.2))

def fmtDp (x : DDp) : List UInt8 := if okDp x then x.1.data.toList ++ digsOf x.2.1 ++ [62] ++ [chD x.2.2] else []

set_option maxRecDepth 100000 in
set_option maxHeartbeats 2000000 in
theorem fmtDp_impl (cs : List Value) (x : DDp) (w : World) (h : rDp.rep w cs x) (hn : x.2.1.length ≤ 1048576) :
    Calls Tryz.prog 23 #[.agg cs.toArray] w fun e w' => e = .returned (.string (bs (fmtDp x))) ∧ Below w.heap.size w w' := by
  obtain ⟨ub, un, uc, rfl, hs0, r1, hi2⟩ := rDp_open h
  obtain ⟨m1, xs, t⟩ := x
  simp only at hs0 r1 hi2 hn
  have HF : Hid (fmtDp (m1, xs, t) = if (nameB m1 && (colsB 3 xs && (betw t 0 2 && !has xs t))) then m1.data.toList ++ digsOf xs ++ [62] ++ [chD t] else []) := rfl
  have H1 := Lib.hid (fun W (hW : Below w.heap.size w W) => nameOk_any m1 W hs0)
  have H2 := Lib.hid (fun W (hW : Below w.heap.size w W) => columnsOk_any ub un uc xs 3 W (rI_ints (rI.mono r1 hW)) (by unfold I64; omega) (by omega))
  have H3 := Lib.hid (fun W (hW : Below w.heap.size w W) => isCol_any t W)
  have H4 := Lib.hid (fun W (hW : Below w.heap.size w W) => contains_any ub un uc xs t W (rI_ints (rI.mono r1 hW)))
  have HR := Lib.hid (fun W (hW : Below w.heap.size w W) => rI.mono r1 hW)
  obtain ⟨b1, hb1⟩ : ∃ b, nameB m1 = b := ⟨_, rfl⟩
  obtain ⟨b2, hb2⟩ : ∃ b, colsB 3 xs = b := ⟨_, rfl⟩
  obtain ⟨b3, hb3⟩ : ∃ b, betw t 0 2 = b := ⟨_, rfl⟩
  obtain ⟨b4, hb4⟩ : ∃ b, has xs t = b := ⟨_, rfl⟩
  rw [hb1, hb2, hb3, hb4] at HF
  simp only [hb1] at H1
  simp only [hb2] at H2
  simp only [hb3] at H3
  simp only [hb4] at H4
  obtain ⟨R, hR⟩ : ∃ R, fmtDp (m1, xs, t) = R := ⟨_, rfl⟩
  rw [hR] at HF ⊢
  have HB1 := Lib.hid hb1
  have HB2 := Lib.hid hb2
  have HB3 := Lib.hid hb3
  have HB4 := Lib.hid hb4
  clear h r1 hR hb1 hb2 hb3 hb4
  have hb0 : Below w.heap.size w w := Below.refl _ _
  go_enter Tryz.func23, Tryz.ntmps23
  obtain ⟨w1, hw1⟩ : ∃ W, W = w.alloc (.cells #[.string m1, .slice ub un uc, .int .i64 t] 29) := ⟨_, rfl⟩
  have z1 : Below w.heap.size w w1 := by rw [hw1]; exact (Below.refl _ _).alloc (Nat.le_refl _) _
  have s1 : w1.heap.size = w.heap.size + 1 := by rw [hw1]; simp
  have hb1 := on hb0 z1
  have x_0 : w1.cell? ⟨w.heap.size, 0, none⟩ = some (.string m1) := by rw [hw1]; exact box_cell (Below.refl _ _) rfl
  have x_1 : w1.cell? ⟨w.heap.size, 1, none⟩ = some (.slice ub un uc) := by rw [hw1]; exact box_cell (Below.refl _ _) rfl
  have x_2 : w1.cell? ⟨w.heap.size, 2, none⟩ = some (.int .i64 t) := by rw [hw1]; exact box_cell (Below.refl _ _) rfl
  have raw1_x_0 := x_0
  have raw1_x_1 := x_1
  have raw1_x_2 := x_2
  rw [hw1] at raw1_x_0 raw1_x_1 raw1_x_2
  go_wp2_with fail
  rw [← hw1]
  clear hw1
  clear raw1_x_0 raw1_x_1 raw1_x_2
  refine (H1.out _ hb1).mono ?_
  rintro e w' ⟨rfl, rfl⟩
  cases b1 with
  | false =>
    have HE : Hid (R = []) := Lib.hid (by rw [HF.out]; simp)
    go_wp2_with fail
    go_ret
    exact ⟨by rw [HE.out]; rfl, hb1⟩
  | true =>
    go_wp2_with fail
    refine (H3.out _ hb1).mono ?_
    rintro e w' ⟨rfl, rfl⟩
    cases b3 with
    | false =>
      have HE : Hid (R = []) := Lib.hid (by rw [HF.out]; simp)
      go_wp2_with fail
      go_ret
      exact ⟨by rw [HE.out]; rfl, hb1⟩
    | true =>
      go_wp2_with fail
      refine (H2.out _ hb1).mono ?_
      rintro e w' ⟨rfl, rfl⟩
      cases b2 with
      | false =>
        have HE : Hid (R = []) := Lib.hid (by rw [HF.out]; simp)
        go_wp2_with fail
        go_ret
        exact ⟨by rw [HE.out]; rfl, hb1⟩
      | true =>
        go_wp2_with fail
        refine (H4.out _ hb1).mono ?_
        rintro e w' ⟨rfl, rfl⟩
        cases b4 with
        | true =>
          have HE : Hid (R = []) := Lib.hid (by rw [HF.out]; simp)
          go_wp2_with fail
          go_ret
          exact ⟨by rw [HE.out]; rfl, hb1⟩
        | false =>
          have HE : Hid (R = m1.data.toList ++ digsOf xs ++ [62] ++ [chD t]) := Lib.hid (by rw [HF.out]; rfl)
          obtain ⟨ml, rfl⟩ : ∃ ml, m1 = bs ml := ⟨_, (bs_of' m1).symm⟩
          have hl1 := name_len' HB1.out
          have hg1 : (bs ml).size = 1 := by rw [bs_size]; exact hl1
          have h3 := HB3.out
          simp only [betw, Bool.and_eq_true, decide_eq_true_eq] at h3
          obtain ⟨d1, rfl⟩ := Int.eq_ofNat_of_zero_le h3.1
          have HI1 := Lib.hid (fun W hW => digitsText_any _ xs W (HR.out W hW) hn (fun y hy => by have := cols_range HB2.out y hy; omega))
          have HI2 := Lib.hid (fun W => fmtI_dig d1 (by omega) W)
          have hd9 := digsOf_len xs
          obtain ⟨dl, hdl⟩ : ∃ q, digsOf xs = q := ⟨_, rfl⟩
          obtain ⟨q2, hq2⟩ : ∃ q, chD (d1 : Int) = q := ⟨_, rfl⟩
          simp only [hdl] at HI1 HE hd9
          rw [hq2] at HI2 HE
          have hRR : bs R = (((bs ml ++ bs dl) ++ ByteArray.mk #[62]) ++ bs [q2]) := by rw [HE.out, ← bs_app, ← bs_app, ← bs_app]
          clear h3 hdl hq2 HF H1 H2 H3 H4 HB1 HB2 HB3 HB4 HR HE
          go_wp2_with fail
          refine wp_region_noPanic ?_
          refine wp_region_held_drew (S := (fun W => W.cell? ⟨w.heap.size, 0, none⟩ = some (.string (bs ml)) ∧ W.cell? ⟨w.heap.size, 1, none⟩ = some (.slice ub un uc) ∧ W.cell? ⟨w.heap.size, 2, none⟩ = some (.int .i64 (d1 : Int)))) (by kernel_rfl) ?hS2 (fun hHeld => ?_)
          case hS2 => exact ⟨x_0, x_1, x_2⟩
          refine wpAnyH_take (i := 0) (v := ?v0_3) rfl (by kernel_rfl) (by kernel_rfl) (by kernel_rfl) (fun _ _ _ h => h) (Or.inl ⟨by rfl, ?hy0_3⟩) (by assumption) ?rest0_3
          case hy0_3 => intro w hSw; (try dsimp only at hSw); go_simp; (try with_reducible rfl)
          try simp only [Act.put, lgA, lgB, lgC, lgD, lgE, lgF]
          refine wpAnyH_take (i := 1) (v := ?v1_4) rfl (by kernel_rfl) (by kernel_rfl) (by kernel_rfl) (fun _ _ _ h => h) (Or.inl ⟨by rfl, ?hy1_4⟩) (by assumption) ?rest1_4
          case hy1_4 => intro w hSw; (try dsimp only at hSw); go_simp; (try with_reducible rfl)
          try simp only [Act.put, lgA, lgB, lgC, lgD, lgE, lgF]
          refine wpAnyH_take (i := 2) (v := ?v2_5) rfl (by kernel_rfl) (by kernel_rfl) (by kernel_rfl) (fun _ _ _ h => h) (Or.inl ⟨by rfl, ?hy2_5⟩) (by assumption) ?rest2_5
          case hy2_5 => intro w hSw; (try dsimp only at hSw); go_simp; (try with_reducible rfl)
          try simp only [Act.put, lgA, lgB, lgC, lgD, lgE, lgF]
          refine wpAnyH_take (i := 3) (v := ?v3_6) rfl (by kernel_rfl) (by kernel_rfl) (by kernel_rfl) (fun _ _ _ h => h) (Or.inl ⟨by rfl, ?hy3_6⟩) (by assumption) ?rest3_6
          case hy3_6 => intro w hSw; (try dsimp only at hSw); go_simp; (try with_reducible rfl)
          try simp only [Act.put, lgA, lgB, lgC, lgD, lgE, lgF]
          refine wpAnyH_take (i := 7) (v := ?v7_7) rfl (by kernel_rfl) (by kernel_rfl) (by kernel_rfl) (fun _ _ _ h => h) (Or.inl ⟨by rfl, ?hy7_7⟩) (by assumption) ?rest7_7
          case hy7_7 => intro w hSw; (try dsimp only at hSw); go_simp; (try with_reducible rfl)
          try simp only [Act.put, lgA, lgB, lgC, lgD, lgE, lgF]
          refine wpAnyH_take (i := 8) (v := ?v8_8) rfl (by kernel_rfl) (by kernel_rfl) (by kernel_rfl) (fun _ _ _ h => h) (Or.inl ⟨by rfl, ?hy8_8⟩) (by assumption) ?rest8_8
          case hy8_8 => intro w hSw; (try dsimp only at hSw); go_simp; (try with_reducible rfl)
          try simp only [Act.put, lgA, lgB, lgC, lgD, lgE, lgF]
          refine wpAnyH_ready (rs := [4]) (by kernel_rfl) (by simp) ?_
          refine AllReadyH.cons rfl (fun K hK => ?_) AllReadyH.nil
          go_simp; (refine (HI1.out _ (hb1.drew)).mono ?_); rintro e wA ⟨rfl, zA⟩; replace zA : Below w1.heap.size w1 wA := on (Below.refl _ _).drew zA; have sA := zA.size; have hbA := on hb1 zA; have hSA := (⟨(zA.cell (p := ⟨w.heap.size, 0, none⟩) (by simp only []; omega)).trans x_0, (zA.cell (p := ⟨w.heap.size, 1, none⟩) (by simp only []; omega)).trans x_1, (zA.cell (p := ⟨w.heap.size, 2, none⟩) (by simp only []; omega)).trans x_2⟩ : (fun W => W.cell? ⟨w.heap.size, 0, none⟩ = some (.string (bs ml)) ∧ W.cell? ⟨w.heap.size, 1, none⟩ = some (.slice ub un uc) ∧ W.cell? ⟨w.heap.size, 2, none⟩ = some (.int .i64 (d1 : Int))) wA)
          refine hK.out _ _ ?_ (fun hHeld => ?_)
          · exact hSA
          clear hK K
          try simp only [Act.put, List.setIfInBounds_toArray, List.set_cons_zero, List.set_cons_succ]
          refine wpAnyH_take (i := 5) (v := ?v5yi) rfl (by kernel_rfl) (by kernel_rfl) (by kernel_rfl) (fun _ _ _ h => h) (Or.inl ⟨by rfl, ?hy5yi⟩) (by assumption) ?rest5yi
          case hy5yi => intro w hSw; (try dsimp only at hSw); go_simp; (first | (with_reducible rfl) | rfl | (split <;> first | rfl | (exfalso; omega)))
          try simp only [Act.put, lgA, lgB, lgC, lgD, lgE, lgF]
          refine wpAnyH_take (i := 6) (v := ?v6yi) rfl (by kernel_rfl) (by kernel_rfl) (by kernel_rfl) (fun _ _ _ h => h) (Or.inl ⟨by rfl, ?hy6yi⟩) (by assumption) ?rest6yi
          case hy6yi => intro w hSw; (try dsimp only at hSw); go_simp; (first | (with_reducible rfl) | rfl | (split <;> first | rfl | (exfalso; omega)))
          try simp only [Act.put, lgA, lgB, lgC, lgD, lgE, lgF]
          refine wpAnyH_ready (rs := [9]) (by kernel_rfl) (by simp) ?_
          refine AllReadyH.cons rfl (fun K hK => ?_) AllReadyH.nil
          go_simp; (refine (HI2.out _).mono ?_); rintro e wB ⟨rfl, zB⟩; have sB := zB.size; have hbB := on hbA zB; have hSB := (⟨(zB.cell (p := ⟨w.heap.size, 0, none⟩) (by simp only []; omega)).trans hSA.1, (zB.cell (p := ⟨w.heap.size, 1, none⟩) (by simp only []; omega)).trans hSA.2.1, (zB.cell (p := ⟨w.heap.size, 2, none⟩) (by simp only []; omega)).trans hSA.2.2⟩ : (fun W => W.cell? ⟨w.heap.size, 0, none⟩ = some (.string (bs ml)) ∧ W.cell? ⟨w.heap.size, 1, none⟩ = some (.slice ub un uc) ∧ W.cell? ⟨w.heap.size, 2, none⟩ = some (.int .i64 (d1 : Int))) wB)
          refine hK.out _ _ ?_ (fun hHeld => ?_)
          · exact hSB
          clear hK K
          try simp only [Act.put, List.setIfInBounds_toArray, List.set_cons_zero, List.set_cons_succ]
          refine wpAnyH_take (i := 10) (v := ?v10yi) rfl (by kernel_rfl) (by kernel_rfl) (by kernel_rfl) (fun _ _ _ h => h) (Or.inl ⟨by rfl, ?hy10yi⟩) (by assumption) ?rest10yi
          case hy10yi => intro w hSw; (try dsimp only at hSw); go_simp; (first | (with_reducible rfl) | rfl | (split <;> first | rfl | (exfalso; omega)))
          try simp only [Act.put, lgA, lgB, lgC, lgD, lgE, lgF]
          refine wpAnyH_take (i := 11) (v := ?v11_9) rfl (by kernel_rfl) (by kernel_rfl) (by kernel_rfl) (fun _ _ _ h => h) (Or.inl ⟨by rfl, ?hy11_9⟩) (by assumption) ?rest11_9
          case hy11_9 => intro w hSw; (try dsimp only at hSw); go_simp; (try with_reducible rfl)
          try simp only [Act.put, lgA, lgB, lgC, lgD, lgE, lgF]
          refine wpAnyH_done (by kernel_rfl) ?_ _
          refine NoPanic.normal ?_
          go_wp2_with fail
          go_ret
          refine ⟨?_, hbB⟩
          rw [hRR]
          rfl

set_option maxRecDepth 100000 in
set_option maxHeartbeats 2000000 in
theorem fmtDp_spec (cs : List Value) (x : DDp) (w : World) (h : rDp.rep w cs x) (hn : x.2.1.length ≤ 1048576) :
    Calls Tryz.prog 54 #[.agg cs.toArray] w fun e w' => e = .returned (.string (bs (fmtDp x))) ∧ Below w.heap.size w w' := by
  obtain ⟨ub, un, uc, rfl, hs0, r1, hi2⟩ := rDp_open h
  obtain ⟨m1, xs, t⟩ := x
  simp only at hs0 r1 hi2 hn
  have HF : Hid (fmtDp (m1, xs, t) = if (nameB m1 && (colsB 3 xs && (betw t 0 2 && !has xs t))) then m1.data.toList ++ digsOf xs ++ [62] ++ [chD t] else []) := rfl
  have H1 := Lib.hid (fun W (hW : Below w.heap.size w W) => l4Name_any m1 W hs0)
  have H2 := Lib.hid (fun W (hW : Below w.heap.size w W) => l12Rises_any ub un uc xs W (rI_ints (rI.mono r1 hW)))
  have H3 := Lib.hid (fun W (hW : Below w.heap.size w W) => l1In_any t 0 2 W)
  have H4 := Lib.hid (fun W (hW : Below w.heap.size w W) => l7Has_any ub un uc xs t W (rI_ints (rI.mono r1 hW)))
  have HR := Lib.hid (fun W (hW : Below w.heap.size w W) => rI.mono r1 hW)
  obtain ⟨b1, hb1⟩ : ∃ b, nameB m1 = b := ⟨_, rfl⟩
  obtain ⟨b2, hb2⟩ : ∃ b, colsB 3 xs = b := ⟨_, rfl⟩
  obtain ⟨b3, hb3⟩ : ∃ b, betw t 0 2 = b := ⟨_, rfl⟩
  obtain ⟨b4, hb4⟩ : ∃ b, has xs t = b := ⟨_, rfl⟩
  rw [hb1, hb2, hb3, hb4] at HF
  simp only [hb1] at H1
  simp only [hb2] at H2
  simp only [hb3] at H3
  simp only [hb4] at H4
  obtain ⟨R, hR⟩ : ∃ R, fmtDp (m1, xs, t) = R := ⟨_, rfl⟩
  rw [hR] at HF ⊢
  have HB1 := Lib.hid hb1
  have HB2 := Lib.hid hb2
  have HB3 := Lib.hid hb3
  have HB4 := Lib.hid hb4
  clear h r1 hR hb1 hb2 hb3 hb4
  have hb0 : Below w.heap.size w w := Below.refl _ _
  go_enter Tryz.func54, Tryz.ntmps54
  obtain ⟨w1, hw1⟩ : ∃ W, W = w.alloc (.cells #[.string m1, .slice ub un uc, .int .i64 t] 29) := ⟨_, rfl⟩
  have z1 : Below w.heap.size w w1 := by rw [hw1]; exact (Below.refl _ _).alloc (Nat.le_refl _) _
  have s1 : w1.heap.size = w.heap.size + 1 := by rw [hw1]; simp
  have hb1 := on hb0 z1
  have x_0 : w1.cell? ⟨w.heap.size, 0, none⟩ = some (.string m1) := by rw [hw1]; exact box_cell (Below.refl _ _) rfl
  have x_1 : w1.cell? ⟨w.heap.size, 1, none⟩ = some (.slice ub un uc) := by rw [hw1]; exact box_cell (Below.refl _ _) rfl
  have x_2 : w1.cell? ⟨w.heap.size, 2, none⟩ = some (.int .i64 t) := by rw [hw1]; exact box_cell (Below.refl _ _) rfl
  have raw1_x_0 := x_0
  have raw1_x_1 := x_1
  have raw1_x_2 := x_2
  rw [hw1] at raw1_x_0 raw1_x_1 raw1_x_2
  go_wp2_with fail
  rw [← hw1]
  clear hw1
  clear raw1_x_0 raw1_x_1 raw1_x_2
  refine (H1.out _ hb1).mono ?_
  rintro e w' ⟨rfl, rfl⟩
  cases b1 with
  | false =>
    have HE : Hid (R = []) := Lib.hid (by rw [HF.out]; simp)
    go_wp2_with fail
    go_ret
    exact ⟨by rw [HE.out]; rfl, hb1⟩
  | true =>
    go_wp2_with fail
    refine (H2.out _ hb1).mono ?_
    rintro e wq ⟨rfl, zq⟩
    have s2 := zq.size
    have hb2 := on hb1 zq
    replace x_0 := bxc zq x_0
    replace x_1 := bxc zq x_1
    replace x_2 := bxc zq x_2
    cases b2 with
    | false =>
      have HE : Hid (R = []) := Lib.hid (by rw [HF.out]; simp)
      go_wp2_with fail
      go_ret
      exact ⟨by rw [HE.out]; rfl, hb2⟩
    | true =>
      go_wp2_with fail
      refine (H3.out _ hb2).mono ?_
      rintro e w' ⟨rfl, rfl⟩
      cases b3 with
      | false =>
        have HE : Hid (R = []) := Lib.hid (by rw [HF.out]; simp)
        go_wp2_with fail
        go_ret
        exact ⟨by rw [HE.out]; rfl, hb2⟩
      | true =>
        go_wp2_with fail
        refine (H4.out _ hb2).mono ?_
        rintro e w' ⟨rfl, rfl⟩
        cases b4 with
        | true =>
          have HE : Hid (R = []) := Lib.hid (by rw [HF.out]; simp)
          go_wp2_with fail
          go_ret
          exact ⟨by rw [HE.out]; rfl, hb2⟩
        | false =>
          have HE : Hid (R = m1.data.toList ++ digsOf xs ++ [62] ++ [chD t]) := Lib.hid (by rw [HF.out]; rfl)
          obtain ⟨ml, rfl⟩ : ∃ ml, m1 = bs ml := ⟨_, (bs_of' m1).symm⟩
          have hl1 := name_len' HB1.out
          have hg1 : (bs ml).size = 1 := by rw [bs_size]; exact hl1
          have h3 := HB3.out
          simp only [betw, Bool.and_eq_true, decide_eq_true_eq] at h3
          obtain ⟨d1, rfl⟩ := Int.eq_ofNat_of_zero_le h3.1
          have HI1 := Lib.hid (fun W hW => l4Digits_any _ xs W (HR.out W hW) hn (fun y hy => by have := cols_range HB2.out y hy; omega))
          have HI2 := Lib.hid (fun W => fmtInt_dig d1 (by omega) W)
          have hd9 := digsOf_len xs
          obtain ⟨dl, hdl⟩ : ∃ q, digsOf xs = q := ⟨_, rfl⟩
          obtain ⟨q2, hq2⟩ : ∃ q, chD (d1 : Int) = q := ⟨_, rfl⟩
          simp only [hdl] at HI1 HE hd9
          rw [hq2] at HI2 HE
          have hRR : bs R = (((bs ml ++ bs dl) ++ ByteArray.mk #[62]) ++ bs [q2]) := by rw [HE.out, ← bs_app, ← bs_app, ← bs_app]
          clear h3 hdl hq2 HF H1 H2 H3 H4 HB1 HB2 HB3 HB4 HR HE
          go_wp2_with fail
          refine wp_region_noPanic ?_
          refine wp_region_held_drew (S := (fun W => W.cell? ⟨w.heap.size, 0, none⟩ = some (.string (bs ml)) ∧ W.cell? ⟨w.heap.size, 1, none⟩ = some (.slice ub un uc) ∧ W.cell? ⟨w.heap.size, 2, none⟩ = some (.int .i64 (d1 : Int)))) (by kernel_rfl) ?hS3 (fun hHeld => ?_)
          case hS3 => exact ⟨x_0, x_1, x_2⟩
          refine wpAnyH_take (i := 0) (v := ?v0_4) rfl (by kernel_rfl) (by kernel_rfl) (by kernel_rfl) (fun _ _ _ h => h) (Or.inl ⟨by rfl, ?hy0_4⟩) (by assumption) ?rest0_4
          case hy0_4 => intro w hSw; (try dsimp only at hSw); go_simp; (try with_reducible rfl)
          try simp only [Act.put, lgA, lgB, lgC, lgD, lgE, lgF]
          refine wpAnyH_take (i := 1) (v := ?v1_5) rfl (by kernel_rfl) (by kernel_rfl) (by kernel_rfl) (fun _ _ _ h => h) (Or.inl ⟨by rfl, ?hy1_5⟩) (by assumption) ?rest1_5
          case hy1_5 => intro w hSw; (try dsimp only at hSw); go_simp; (try with_reducible rfl)
          try simp only [Act.put, lgA, lgB, lgC, lgD, lgE, lgF]
          refine wpAnyH_take (i := 2) (v := ?v2_6) rfl (by kernel_rfl) (by kernel_rfl) (by kernel_rfl) (fun _ _ _ h => h) (Or.inl ⟨by rfl, ?hy2_6⟩) (by assumption) ?rest2_6
          case hy2_6 => intro w hSw; (try dsimp only at hSw); go_simp; (try with_reducible rfl)
          try simp only [Act.put, lgA, lgB, lgC, lgD, lgE, lgF]
          refine wpAnyH_take (i := 3) (v := ?v3_7) rfl (by kernel_rfl) (by kernel_rfl) (by kernel_rfl) (fun _ _ _ h => h) (Or.inl ⟨by rfl, ?hy3_7⟩) (by assumption) ?rest3_7
          case hy3_7 => intro w hSw; (try dsimp only at hSw); go_simp; (try with_reducible rfl)
          try simp only [Act.put, lgA, lgB, lgC, lgD, lgE, lgF]
          refine wpAnyH_take (i := 7) (v := ?v7_8) rfl (by kernel_rfl) (by kernel_rfl) (by kernel_rfl) (fun _ _ _ h => h) (Or.inl ⟨by rfl, ?hy7_8⟩) (by assumption) ?rest7_8
          case hy7_8 => intro w hSw; (try dsimp only at hSw); go_simp; (try with_reducible rfl)
          try simp only [Act.put, lgA, lgB, lgC, lgD, lgE, lgF]
          refine wpAnyH_take (i := 8) (v := ?v8_9) rfl (by kernel_rfl) (by kernel_rfl) (by kernel_rfl) (fun _ _ _ h => h) (Or.inl ⟨by rfl, ?hy8_9⟩) (by assumption) ?rest8_9
          case hy8_9 => intro w hSw; (try dsimp only at hSw); go_simp; (try with_reducible rfl)
          try simp only [Act.put, lgA, lgB, lgC, lgD, lgE, lgF]
          refine wpAnyH_ready (rs := [4]) (by kernel_rfl) (by simp) ?_
          refine AllReadyH.cons rfl (fun K hK => ?_) AllReadyH.nil
          go_simp; (refine (HI1.out _ (hb2.drew)).mono ?_); rintro e wA ⟨rfl, zA⟩; replace zA : Below wq.heap.size wq wA := on (Below.refl _ _).drew zA; have sA := zA.size; have hbA := on hb2 zA; have hSA := (⟨(zA.cell (p := ⟨w.heap.size, 0, none⟩) (by simp only []; omega)).trans x_0, (zA.cell (p := ⟨w.heap.size, 1, none⟩) (by simp only []; omega)).trans x_1, (zA.cell (p := ⟨w.heap.size, 2, none⟩) (by simp only []; omega)).trans x_2⟩ : (fun W => W.cell? ⟨w.heap.size, 0, none⟩ = some (.string (bs ml)) ∧ W.cell? ⟨w.heap.size, 1, none⟩ = some (.slice ub un uc) ∧ W.cell? ⟨w.heap.size, 2, none⟩ = some (.int .i64 (d1 : Int))) wA)
          refine hK.out _ _ ?_ (fun hHeld => ?_)
          · exact hSA
          clear hK K
          try simp only [Act.put, List.setIfInBounds_toArray, List.set_cons_zero, List.set_cons_succ]
          refine wpAnyH_take (i := 5) (v := ?v5ys) rfl (by kernel_rfl) (by kernel_rfl) (by kernel_rfl) (fun _ _ _ h => h) (Or.inl ⟨by rfl, ?hy5ys⟩) (by assumption) ?rest5ys
          case hy5ys => intro w hSw; (try dsimp only at hSw); go_simp; (first | (with_reducible rfl) | rfl | (split <;> first | rfl | (exfalso; omega)))
          try simp only [Act.put, lgA, lgB, lgC, lgD, lgE, lgF]
          refine wpAnyH_take (i := 6) (v := ?v6ys) rfl (by kernel_rfl) (by kernel_rfl) (by kernel_rfl) (fun _ _ _ h => h) (Or.inl ⟨by rfl, ?hy6ys⟩) (by assumption) ?rest6ys
          case hy6ys => intro w hSw; (try dsimp only at hSw); go_simp; (first | (with_reducible rfl) | rfl | (split <;> first | rfl | (exfalso; omega)))
          try simp only [Act.put, lgA, lgB, lgC, lgD, lgE, lgF]
          refine wpAnyH_ready (rs := [9]) (by kernel_rfl) (by simp) ?_
          refine AllReadyH.cons rfl (fun K hK => ?_) AllReadyH.nil
          go_simp; (refine (HI2.out _).mono ?_); rintro e wB ⟨rfl, zB⟩; have sB := zB.size; have hbB := on hbA zB; have hSB := (⟨(zB.cell (p := ⟨w.heap.size, 0, none⟩) (by simp only []; omega)).trans hSA.1, (zB.cell (p := ⟨w.heap.size, 1, none⟩) (by simp only []; omega)).trans hSA.2.1, (zB.cell (p := ⟨w.heap.size, 2, none⟩) (by simp only []; omega)).trans hSA.2.2⟩ : (fun W => W.cell? ⟨w.heap.size, 0, none⟩ = some (.string (bs ml)) ∧ W.cell? ⟨w.heap.size, 1, none⟩ = some (.slice ub un uc) ∧ W.cell? ⟨w.heap.size, 2, none⟩ = some (.int .i64 (d1 : Int))) wB)
          refine hK.out _ _ ?_ (fun hHeld => ?_)
          · exact hSB
          clear hK K
          try simp only [Act.put, List.setIfInBounds_toArray, List.set_cons_zero, List.set_cons_succ]
          refine wpAnyH_take (i := 10) (v := ?v10ys) rfl (by kernel_rfl) (by kernel_rfl) (by kernel_rfl) (fun _ _ _ h => h) (Or.inl ⟨by rfl, ?hy10ys⟩) (by assumption) ?rest10ys
          case hy10ys => intro w hSw; (try dsimp only at hSw); go_simp; (first | (with_reducible rfl) | rfl | (split <;> first | rfl | (exfalso; omega)))
          try simp only [Act.put, lgA, lgB, lgC, lgD, lgE, lgF]
          refine wpAnyH_take (i := 11) (v := ?v11_10) rfl (by kernel_rfl) (by kernel_rfl) (by kernel_rfl) (fun _ _ _ h => h) (Or.inl ⟨by rfl, ?hy11_10⟩) (by assumption) ?rest11_10
          case hy11_10 => intro w hSw; (try dsimp only at hSw); go_simp; (try with_reducible rfl)
          try simp only [Act.put, lgA, lgB, lgC, lgD, lgE, lgF]
          refine wpAnyH_done (by kernel_rfl) ?_ _
          refine NoPanic.normal ?_
          go_wp2_with fail
          go_ret
          refine ⟨?_, hbB⟩
          rw [hRR]
          rfl

end Go.Proofs.YtpgfkjcekhifiaaGreatDoor

namespace Go.Proofs.YtpgfkjcekhifiaaGreatDoor

open Go.RowKit

set_option linter.unusedVariables false

set_option linter.unusedSimpArgs false

set_option synthInstance.maxSize 2000

set_option synthInstance.maxHeartbeats 400000

theorem list5 {l : List UInt8} (h : l.length = 5) : ∃ a b c d e, l = [a, b, c, d, e] := by
  match l, h with
  | [a, b, c, d, e], _ => exact ⟨a, b, c, d, e, rfl⟩

theorem byte_wrap (b : UInt8) : wrap64 (wrap64 (b.toNat : Int) - 48) = (b.toNat : Int) - 48 := by
  have h := b.toNat_lt
  unfold wrap64
  omega

end Go.Proofs.YtpgfkjcekhifiaaGreatDoor

namespace Go.Proofs.YtpgfkjcekhifiaaGreatDoor

open Go.RowKit

set_option linter.unusedVariables false

set_option linter.unusedSimpArgs false

set_option synthInstance.maxSize 2000

set_option synthInstance.maxHeartbeats 400000

def vals (l : List UInt8) : List Int := l.map (fun b => (b.toNat : Int) - 48)

theorem vals_len (l : List UInt8) : (vals l).length = l.length := by simp [vals]

theorem vals_snoc {l : List UInt8} {j : Nat} {b : UInt8} (h : l[j]? = some b) : vals (l.take (j + 1)) = vals (l.take j) ++ [(b.toNat : Int) - 48] := by
  rw [vals, List.take_add_one, h]
  simp [vals]

def digOk (b : UInt8) : Bool := betw (b.toNat : Int) 48 57

def digs? (l : List UInt8) : List Int := if l.all digOk then vals l else []

theorem digs_yes {l : List UInt8} (h : ∀ (j : Nat) (b : UInt8), l[j]? = some b → digOk b = true) : digs? l = vals l := by
  rw [digs?, if_pos]
  rw [List.all_eq_true]
  intro b hb
  obtain ⟨j, hj, e⟩ := List.getElem_of_mem hb
  exact h j b (by rw [List.getElem?_eq_getElem hj, e])

theorem digs_no {l : List UInt8} {j : Nat} {b : UInt8} (h : l[j]? = some b) (hb : digOk b = false) : digs? l = [] := by
  rw [digs?, if_neg]
  intro ha
  rw [List.all_eq_true] at ha
  have := ha b (List.mem_of_getElem? h)
  rw [hb] at this
  cases this

theorem str_at {s : ByteArray} {j : Nat} (h : j < s.size) : s.data.toList[j]? = some s[j] := by
  have h' : j < s.data.toList.length := by simpa using h
  rw [List.getElem?_eq_getElem h']
  rfl

set_option maxRecDepth 100000 in
set_option maxHeartbeats 2000000 in
theorem l4Values_any (s : ByteArray) (w : World) (hs : s.size ≤ 1048576) :
    Calls Tryz.prog 59 #[.string s] w fun e w' => ∃ u, e = .returned u ∧ Own oI w.heap.size w'.heap.size w' [u] (vals s.data.toList) ∧ Below w.heap.size w w' := by
  have hb0 : Below w.heap.size w w := Below.refl _ _
  have hl : s.data.toList.length = s.size := by simp
  go_enter Tryz.func59, Tryz.ntmps59
  obtain ⟨w1, hw1⟩ : ∃ W, W = w.alloc (.cells #[] 3) := ⟨_, rfl⟩
  have z1 : Below w.heap.size w w1 := by rw [hw1]; exact (Below.refl _ _).alloc (Nat.le_refl _) _
  have s1 : w1.heap.size = w.heap.size + 1 := by rw [hw1]; simp
  have hb1 := on hb0 z1
  have he : ∀ S, Acc 3 O.int w.heap.size S w1.heap.size w1 (.slice (some ⟨w.heap.size, 0, none⟩) 0 0) [] := fun S => by rw [hw1]; exact Acc.empty (by omega) (by first | (simp; done) | (simp; omega))
  go_wp2_with fail
  rw [← hw1]
  clear hw1
  go_loopw [3, 4] (fun v k wr => ∃ j : Nat, j ≤ s.size ∧ k = .int .i64 j ∧ Acc 3 O.int w.heap.size w1.heap.size wr.heap.size wr v (vals (s.data.toList.take j)) ∧ Turn w.heap.size (w.heap.size + 1) w1 wr) (fun _ k _ => s.size - (intOf k).toNat)
  case atStart => exact ⟨0, Nat.zero_le _, rfl, (he _).wide (Nat.le_refl _) (by omega), turn_refl _ _ _⟩
  case round =>
    obtain ⟨j, hj, rfl, hacc, hdr⟩ := hrel
    have hlc := hdr
    clear he
    have s2 := hdr.size
    have hb2 := hb1.trans ((hdr.below (by omega)).mono (by omega))
    by_cases hlt : j < s.size
    · have HS := Lib.hid (vals_snoc (str_at hlt))
      have hdl := vals_len (s.data.toList.take j)
      have h3 := List.length_take_le j s.data.toList
      have h9 := (s[j]).toNat_lt
      have e8 : wrap64 (s[j].toNat : Int) = (s[j].toNat : Int) := by unfold wrap64; omega
      have e9 : wrap64 ((s[j].toNat : Int) - 48) = (s[j].toNat : Int) - 48 := by unfold wrap64; omega
      obtain ⟨va, vn, vc, rfl⟩ := hacc.form3
      go_wp2_with (at_builtin; refine wpList_accI _ _ _ _ _ hacc hlc rfl (by omega) (Nat.le_refl _) ⟨by omega, by omega⟩ (by omega) rfl rfl rfl rfl rfl ?_; intro v' w1 hacc' ht' hsz')
      rw [← HS.out] at hacc'
      go_roundw
      case rel => exact ⟨j + 1, by omega, by go_num, hacc', ht'⟩
      case measure => simp [intOf]; omega
    · have HE : Hid (vals (s.data.toList.take j) = vals s.data.toList) := Lib.hid (by rw [List.take_of_length_le (by omega)])
      obtain ⟨va, vn, vc, rfl⟩ := hacc.form3
      rw [HE.out] at hacc
      have HA := Lib.hid hacc
      clear hacc
      go_wp2_with fail
      go_ret
      exact ⟨_, rfl, HA.out.own (Nat.le_refl _) (by omega) (Nat.le_refl _), hb2⟩

set_option maxRecDepth 100000 in
set_option maxHeartbeats 2000000 in
theorem digitsOf_any (s : ByteArray) (w : World) (hs : s.size ≤ 1048576) :
    Calls Tryz.prog 58 #[.string s] w fun e w' => ∃ u b, e = .returned (.tuple #[u, .bool b]) ∧ Own oI w.heap.size w'.heap.size w' [u] (digs? s.data.toList) ∧ Below w.heap.size w w' := by
  have hb0 : Below w.heap.size w w := Below.refl _ _
  have hl : s.data.toList.length = s.size := by simp
  go_enter Tryz.func58, Tryz.ntmps58
  obtain ⟨w1, hw1⟩ : ∃ W, W = w.alloc (.cells #[] 3) := ⟨_, rfl⟩
  have z1 : Below w.heap.size w w1 := by rw [hw1]; exact (Below.refl _ _).alloc (Nat.le_refl _) _
  have s1 : w1.heap.size = w.heap.size + 1 := by rw [hw1]; simp
  have hb1 := on hb0 z1
  have he : ∀ S, Acc 3 O.int w.heap.size S w1.heap.size w1 (.slice (some ⟨w.heap.size, 0, none⟩) 0 0) [] := fun S => by rw [hw1]; exact Acc.empty (by omega) (by first | (simp; done) | (simp; omega))
  go_wp2_with fail
  rw [← hw1]
  clear hw1
  go_loopw [4, 5] (fun v k wr => ∃ j : Nat, j ≤ s.size ∧ k = .int .i64 j ∧ Hid (∀ (i : Nat) (b : UInt8), i < j → s.data.toList[i]? = some b → digOk b = true) ∧ Acc 3 O.int w.heap.size w1.heap.size wr.heap.size wr v (vals (s.data.toList.take j)) ∧ Turn w.heap.size (w.heap.size + 1) w1 wr) (fun _ k _ => s.size - (intOf k).toNat)
  case atStart => exact ⟨0, Nat.zero_le _, rfl, Lib.hid (fun i b h => by omega), (he _).wide (Nat.le_refl _) (by omega), turn_refl _ _ _⟩
  case round =>
    obtain ⟨j, hj, rfl, hD, hacc, hdr⟩ := hrel
    have hlc := hdr
    clear he
    have s2 := hdr.size
    have hb2 := hb1.trans ((hdr.below (by omega)).mono (by omega))
    by_cases hlt : j < s.size
    · have HS := Lib.hid (vals_snoc (str_at hlt))
      have hdl := vals_len (s.data.toList.take j)
      have h3 := List.length_take_le j s.data.toList
      have h9 := (s[j]).toNat_lt
      have HI := Lib.hid (fun W => within_any (s[j].toNat : Int) 48 57 W)
      have hw9 : wrap64 (s[j].toNat : Int) = (s[j].toNat : Int) := by unfold wrap64; omega
      obtain ⟨b, hb⟩ : ∃ b, betw (s[j].toNat : Int) 48 57 = b := ⟨_, rfl⟩
      simp only [hb] at HI
      have HB := Lib.hid hb
      cases b with
      | false =>
        have HN := Lib.hid (digs_no (str_at hlt) HB.out)
        clear hb hacc HS
        go_wp2_with fail
        refine (HI.out _).mono ?_
        rintro e w' ⟨rfl, rfl⟩
        clear hw9
        go_wp2_with fail
        refine bodyPost_ret (v := .tuple #[.slice none 0 0, .bool false]) (by simp [results, Tryz.results58, go_sem]) rfl ⟨_, _, rfl, ?_, hb2⟩
        rw [HN.out]
        exact (own_nil_S (B := w.heap.size)).mono (Nat.le_refl _) (by omega)
      | true =>
        have hbt := hb
        simp only [betw, Bool.and_eq_true, decide_eq_true_eq] at hbt
        have e9 : wrap64 (IntKind.u8.wrap ((s[j].toNat : Int) - 48)) = (s[j].toNat : Int) - 48 := by
          have : IntKind.u8.wrap ((s[j].toNat : Int) - 48) = (s[j].toNat : Int) - 48 := by
            have hq : ∀ n : Int, 0 ≤ n → n ≤ 255 → IntKind.u8.wrap n = n := fun n h0 h1 => by simp [IntKind.wrap, IntKind.bits, IntKind.signed]; omega
            exact hq _ (by omega) (by omega)
          rw [this]
          unfold wrap64
          omega
        have HD := Lib.hid (show ∀ (i : Nat) (b : UInt8), i < j + 1 → s.data.toList[i]? = some b → digOk b = true from fun i b hi hg => by
          by_cases h : i < j
          · exact hD.out i b h hg
          · obtain rfl : i = j := by omega
            rw [str_at hlt] at hg
            obtain rfl := Option.some.inj hg
            exact HB.out)
        clear hb hD
        go_wp2_with fail
        refine (HI.out _).mono ?_
        rintro e w' ⟨rfl, rfl⟩
        clear hw9
        obtain ⟨va, vn, vc, rfl⟩ := hacc.form3
        go_wp2_with (at_builtin; refine wpList_accI _ _ _ _ _ hacc hlc rfl (by omega) (Nat.le_refl _) ⟨by omega, by omega⟩ (by omega) rfl rfl rfl rfl rfl ?_; intro v' w1 hacc' ht' hsz')
        rw [← HS.out] at hacc'
        go_roundw
        case rel => exact ⟨j + 1, by omega, by go_num, HD, hacc', ht'⟩
        case measure => simp [intOf]; omega
    · have HE : Hid (vals (s.data.toList.take j) = digs? s.data.toList) := Lib.hid (by
        rw [List.take_of_length_le (by omega), digs_yes]
        intro i b hg
        have : i < s.data.toList.length := by
          rcases Nat.lt_or_ge i s.data.toList.length with h | h
          · exact h
          · rw [List.getElem?_eq_none h] at hg; cases hg
        exact hD.out i b (by omega) hg)
      obtain ⟨va, vn, vc, rfl⟩ := hacc.form3
      rw [HE.out] at hacc
      have HA := Lib.hid hacc
      clear hacc
      go_wp2_with fail
      refine bodyPost_ret (v := .tuple #[.slice va vn vc, .bool true]) (by simp [results, Tryz.results58, go_sem]) rfl ⟨_, _, rfl, HA.out.own (Nat.le_refl _) (by omega) (Nat.le_refl _), hb2⟩

end Go.Proofs.YtpgfkjcekhifiaaGreatDoor

namespace Go.Proofs.YtpgfkjcekhifiaaGreatDoor

open Go.RowKit

set_option linter.unusedVariables false

set_option linter.unusedSimpArgs false

def rawDp (l : List UInt8) : DDp := (bs (l.take 1), vals ((l.drop 1).take (l.length - 3)), ((l.getD (l.length - 1) 0).toNat : Int) - 48)

def parDpL (l : List UInt8) : Option DDp := if 3 ≤ l.length ∧ l.length ≤ 5 ∧ fmtDp (rawDp l) = l then some (rawDp l) else none

def parDp (s : ByteArray) : Option DDp := parDpL s.data.toList

def zeroDp : DDp := (ByteArray.mk #[], [], 0)

theorem cols_two {xs : List Int} {t : Int} (h : colsB 3 xs = true) (ht : betw t 0 2 = true) (hn : has xs t = false) : xs.length ≤ 2 := by
  match xs with
  | [] => simp
  | [a] => simp
  | [a, b] => simp
  | a :: b :: c :: r =>
    exfalso
    simp only [colsB, colsFrom, betw, has, Bool.and_eq_true, decide_eq_true_eq, decide_eq_false_iff_not, List.mem_cons, not_or] at h ht hn
    omega

theorem vals_digs {xs : List Int} (h : ∀ x ∈ xs, 0 ≤ x ∧ x ≤ 9) : vals (digsOf xs) = xs := by
  induction xs with
  | nil => rfl
  | cons x r ih =>
    have hx := h x (by simp)
    obtain ⟨d, rfl⟩ := Int.eq_ofNat_of_zero_le hx.1
    have hd := chD_nat (show d ≤ 9 by omega)
    have := ih (fun y hy => h y (by simp [hy]))
    simp only [vals, digsOf, List.map_cons, List.map_map] at this ⊢
    rw [this, hd]
    congr 1
    omega

theorem dp_parts {x : DDp} (h : okDp x = true) : ∃ c : UInt8, c ≠ 62 ∧ x.1 = bs [c] ∧ x.2.1.length ≤ 2 ∧ (∀ y ∈ x.2.1, 0 ≤ y ∧ y ≤ 9) ∧ (0 ≤ x.2.2 ∧ x.2.2 ≤ 9) ∧ fmtDp x = [c] ++ digsOf x.2.1 ++ [62] ++ [chD x.2.2] := by
  have hf : fmtDp x = x.1.data.toList ++ digsOf x.2.1 ++ [62] ++ [chD x.2.2] := by rw [fmtDp, if_pos h]
  simp only [okDp, Bool.and_eq_true, Bool.not_eq_true'] at h
  obtain ⟨h1, h2, h3, h4⟩ := h
  obtain ⟨ml, hm⟩ : ∃ ml, x.1 = bs ml := ⟨_, (bs_of' x.1).symm⟩
  rw [hm] at h1
  have hl := name_len' h1
  match ml, hl with
  | [c], _ =>
    refine ⟨c, ?_, hm, cols_two h2 h3 h4, fun y hy => by have := cols_range h2 y hy; omega, by simp only [betw, Bool.and_eq_true, decide_eq_true_eq] at h3; omega, by rw [hf, hm]⟩
    intro e
    subst e
    exact absurd h1 (by decide +kernel)

theorem dp_raw {x : DDp} (h : okDp x = true) : 3 ≤ (fmtDp x).length ∧ (fmtDp x).length ≤ 5 ∧ rawDp (fmtDp x) = x := by
  obtain ⟨c, _, h1, h2, h3, h4, h5⟩ := dp_parts h
  have hd := digsOf_len x.2.1
  have hlen : (fmtDp x).length = x.2.1.length + 3 := by rw [h5]; simp [hd]
  refine ⟨by omega, by omega, ?_⟩
  obtain ⟨d, hd4⟩ := Int.eq_ofNat_of_zero_le h4.1
  have hq := chD_nat (show d ≤ 9 by omega)
  unfold rawDp
  rw [hlen, h5]
  have e1 : ([c] ++ digsOf x.2.1 ++ [62] ++ [chD x.2.2]).take 1 = [c] := by simp
  have e2 : (([c] ++ digsOf x.2.1 ++ [62] ++ [chD x.2.2]).drop 1).take (x.2.1.length + 3 - 3) = digsOf x.2.1 := by
    have e0 : ([c] ++ digsOf x.2.1 ++ [62] ++ [chD x.2.2]).drop 1 = digsOf x.2.1 ++ [62, chD x.2.2] := by simp
    rw [e0, show x.2.1.length + 3 - 3 = (digsOf x.2.1).length by omega, List.take_left]
  have e3 : ([c] ++ digsOf x.2.1 ++ [62] ++ [chD x.2.2]).getD (x.2.1.length + 3 - 1) 0 = chD x.2.2 := by
    rw [List.getD_eq_getElem?_getD, List.getElem?_append_right (by simp [hd])]
    simp [hd]
  rw [e1, e2, e3, vals_digs h3, ← h1, hd4, hq]
  have : (48 + (d : Int)) - 48 = x.2.2 := by omega
  rw [this]

theorem index_sep {a b : List UInt8} (h : (62 : UInt8) ∉ a) : Lib.index (a ++ 62 :: b) [62] = a.length := by
  induction a with
  | nil => simp [Lib.index, List.isPrefixOf]
  | cons x r ih =>
    have hx : x ≠ 62 := fun e => h (by simp [e])
    have := ih (fun hm => h (by simp [hm]))
    have hp : List.isPrefixOf [(62 : UInt8)] (x :: (r ++ 62 :: b)) = false := by
      simp [List.isPrefixOf, Ne.symm hx]
    show Lib.index (x :: (r ++ 62 :: b)) [62] = _
    unfold Lib.index
    rw [hp, this]
    have hne : ((r.length : Int) == -1) = false := by rw [beq_eq_false_iff_ne]; omega
    simp [hne]

theorem cut_sep {a b : List UInt8} (h : (62 : UInt8) ∉ a) : Lib.cut (a ++ 62 :: b) [62] = (a, b, true) := by
  unfold Lib.cut
  rw [index_sep h, if_pos (by omega)]
  simp

theorem digs_no62 {xs : List Int} (h : ∀ x ∈ xs, 0 ≤ x ∧ x ≤ 9) : (62 : UInt8) ∉ digsOf xs := by
  intro hm
  simp only [digsOf, List.mem_map] at hm
  obtain ⟨x, hx, e⟩ := hm
  have := h x hx
  obtain ⟨d, rfl⟩ := Int.eq_ofNat_of_zero_le this.1
  have hq := chD_nat (show d ≤ 9 by omega)
  rw [e] at hq
  have : ((62 : UInt8).toNat : Int) = 62 := rfl
  omega

theorem digs_back {xs : List Int} (h : ∀ x ∈ xs, 0 ≤ x ∧ x ≤ 9) : digs? (digsOf xs) = xs := by
  rw [digs_yes, vals_digs h]
  intro j b hb
  have hm := List.mem_of_getElem? hb
  simp only [digsOf, List.mem_map] at hm
  obtain ⟨x, hx, rfl⟩ := hm
  have := h x hx
  obtain ⟨d, rfl⟩ := Int.eq_ofNat_of_zero_le this.1
  have hq := chD_nat (show d ≤ 9 by omega)
  simp only [digOk, betw, Bool.and_eq_true, decide_eq_true_eq]
  omega

def cutDp (a b : List UInt8) : DDp := (bs (a.take 1), digs? (a.drop 1), ((b.getD 0 0).toNat : Int) - 48)

theorem fmt_ok {x : DDp} (h : fmtDp x ≠ []) : okDp x = true := by
  by_cases ho : okDp x = true
  · exact ho
  · exact absurd (by rw [fmtDp, if_neg ho]) h

theorem par_some {l : List UInt8} {x : DDp} (h : parDpL l = some x) : okDp x = true ∧ fmtDp x = l := by
  unfold parDpL at h
  split at h
  · rename_i hc
    obtain rfl := Option.some.inj h
    refine ⟨fmt_ok ?_, hc.2.2⟩
    rw [hc.2.2]
    intro e
    rw [e] at hc
    simp at hc
  · cases h

theorem par_of {x : DDp} (h : okDp x = true) : parDpL (fmtDp x) = some x := by
  obtain ⟨h1, h2, h3⟩ := dp_raw h
  unfold parDpL
  rw [if_pos ⟨h1, h2, by rw [h3]⟩, h3]

theorem cut_some {l : List UInt8} {x : DDp} (h : parDpL l = some x) : (Lib.cut l [62]).1 ≠ [] ∧ (Lib.cut l [62]).2.1.length = 1 ∧ cutDp (Lib.cut l [62]).1 (Lib.cut l [62]).2.1 = x := by
  obtain ⟨ho, rfl⟩ := par_some h
  obtain ⟨c, hc, h1, h2, h3, h4, h5⟩ := dp_parts ho
  have e : fmtDp x = ([c] ++ digsOf x.2.1) ++ 62 :: [chD x.2.2] := by rw [h5]; simp
  have hno : (62 : UInt8) ∉ [c] ++ digsOf x.2.1 := by
    intro hm
    rcases List.mem_append.1 hm with hm | hm
    · simp at hm; exact hc hm.symm
    · exact digs_no62 h3 hm
  rw [e, cut_sep hno]
  obtain ⟨d, hd4⟩ := Int.eq_ofNat_of_zero_le h4.1
  have hq := chD_nat (show d ≤ 9 by omega)
  refine ⟨by simp, rfl, ?_⟩
  show (bs (([c] ++ digsOf x.2.1).take 1), digs? (([c] ++ digsOf x.2.1).drop 1), (((([chD x.2.2] : List UInt8)).getD 0 0).toNat : Int) - 48) = x
  have e1 : ([c] ++ digsOf x.2.1).take 1 = [c] := by simp
  have e2 : ([c] ++ digsOf x.2.1).drop 1 = digsOf x.2.1 := by simp
  have e3 : (([chD x.2.2] : List UInt8)).getD 0 0 = chD x.2.2 := rfl
  rw [e1, e2, e3, digs_back h3, ← h1, hd4, hq]
  have : (48 + (d : Int)) - 48 = x.2.2 := by omega
  rw [this]

theorem par_early {l : List UInt8} (h : (Lib.cut l [62]).1 = [] ∨ (Lib.cut l [62]).2.1.length ≠ 1) : parDpL l = none := by
  cases hp : parDpL l with
  | none => rfl
  | some x =>
    obtain ⟨h1, h2, _⟩ := cut_some hp
    rcases h with h | h
    · exact absurd h h1
    · exact absurd h2 h

theorem par_late {l : List UInt8} (h : (Lib.cut l [62]).1 ≠ []) : parDpL l = if fmtDp (cutDp (Lib.cut l [62]).1 (Lib.cut l [62]).2.1) = l then some (cutDp (Lib.cut l [62]).1 (Lib.cut l [62]).2.1) else none := by
  split
  · rename_i he
    have hne : l ≠ [] := by
      intro e
      subst e
      exact h rfl
    have ho := fmt_ok (x := cutDp (Lib.cut l [62]).1 (Lib.cut l [62]).2.1) (by rw [he]; exact hne)
    have := par_of ho
    rwa [he] at this
  · rename_i he
    cases hp : parDpL l with
    | none => rfl
    | some x =>
      obtain ⟨h1, h2, h3⟩ := cut_some hp
      obtain ⟨_, h4⟩ := par_some hp
      rw [h3] at he
      exact absurd h4 he

end Go.Proofs.YtpgfkjcekhifiaaGreatDoor

namespace Go.Proofs.YtpgfkjcekhifiaaGreatDoor

open Go.RowKit

set_option linter.unusedVariables false

set_option linter.unusedSimpArgs false

set_option synthInstance.maxSize 2000

set_option synthInstance.maxHeartbeats 400000

theorem cell_setD {W : World} {p q : Addr} {u v : Value} (h : W.cell? q = some v) (hne : q.block ≠ p.block) : (W.setCell p u).cell? q = some v :=
  (World.cell?_of_block (a := q) (Below.heap_setCell _ _ _ _ hne)).trans h

set_option maxRecDepth 100000 in
set_option maxHeartbeats 4000000 in
theorem parDp_spec3 (b0 b1 b2 : UInt8) (w : World) :
    Calls Tryz.prog 22 #[.string (ByteArray.mk #[b0, b1, b2])] w fun e w' => ∃ cs, e = .returned (.tuple #[.agg cs.toArray, .bool (parDpL [b0, b1, b2]).isSome]) ∧ Own oDp w.heap.size w'.heap.size w' cs ((parDpL [b0, b1, b2]).getD zeroDp) ∧ Below w.heap.size w w' := by
  have HP : Hid (parDpL [b0, b1, b2] = if fmtDp (bs [b0], vals [], (b2.toNat : Int) - 48) = [b0, b1, b2] then some (bs [b0], vals [], (b2.toNat : Int) - 48) else none) := Lib.hid (by
    show (if _ then _ else _) = _
    simp [rawDp])
  obtain ⟨P, hP⟩ : ∃ P, parDpL [b0, b1, b2] = P := ⟨_, rfl⟩
  rw [hP] at HP ⊢
  clear hP
  have HV : Hid (∀ W, Calls Tryz.prog 59 #[.string (bs [])] W fun e w' => ∃ u, e = .returned u ∧ Own oI W.heap.size w'.heap.size w' [u] (vals []) ∧ Below W.heap.size W w') := Lib.hid (fun W => l4Values_any (bs []) W (by simp [bs_size]))
  go_enter Tryz.func22, Tryz.ntmps22
  obtain ⟨w1, hw1⟩ : ∃ W, W = w.alloc (.cells #[.string (ByteArray.mk #[]), .slice none 0 0, .int .i64 0] 29) := ⟨_, rfl⟩
  have hb1 : Below w.heap.size w w1 := by rw [hw1]; exact (Below.refl _ _).alloc (Nat.le_refl _) _
  have s1 : w1.heap.size = w.heap.size + 1 := by rw [hw1]; simp
  have r_0 : w1.cell? ⟨w.heap.size, 0, none⟩ = some (.string (ByteArray.mk #[])) := by rw [hw1]; exact box_cell (Below.refl _ _) rfl
  have r_1 : w1.cell? ⟨w.heap.size, 1, none⟩ = some (.slice none 0 0) := by rw [hw1]; exact box_cell (Below.refl _ _) rfl
  have r_2 : w1.cell? ⟨w.heap.size, 2, none⟩ = some (.int .i64 0) := by rw [hw1]; exact box_cell (Below.refl _ _) rfl
  have f_0 : w1.frozen? ⟨w.heap.size, 0, none⟩ = false := by rw [hw1]; exact box_frozen (Below.refl _ _)
  have f_1 : w1.frozen? ⟨w.heap.size, 1, none⟩ = false := by rw [hw1]; exact box_frozen (Below.refl _ _)
  have f_2 : w1.frozen? ⟨w.heap.size, 2, none⟩ = false := by rw [hw1]; exact box_frozen (Below.refl _ _)
  go_wp2_with fail
  rw [← hw1]
  clear hw1
  have h9 := b2.toNat_lt
  have e8 : wrap64 (b2.toNat : Int) = (b2.toNat : Int) := by unfold wrap64; omega
  have e9 : wrap64 ((b2.toNat : Int) - 48) = (b2.toNat : Int) - 48 := by unfold wrap64; omega
  have e8q : IntKind.i64.wrap (b2.toNat : Int) = (b2.toNat : Int) := IntWalk.i64_in _ (by omega)
  have e9q : IntKind.i64.wrap ((b2.toNat : Int) - 48) = (b2.toNat : Int) - 48 := IntWalk.i64_in _ (by omega)
  refine wp_region_noPanic ?_
  refine wp_region_held_drew (S := (fun W => True)) (by kernel_rfl) ?hS2 (fun hHeld => ?_)
  case hS2 => trivial
  refine wpAnyH_take (i := 0) (v := ?v0d3) rfl (by kernel_rfl) (by kernel_rfl) (by kernel_rfl) (fun _ _ _ h => h) (Or.inl ⟨by rfl, ?hy0d3⟩) (by assumption) ?rest0d3
  case hy0d3 => intro w hSw; (try dsimp only at hSw); go_simp; (try (first | (with_reducible rfl) | rfl | exact e8q | exact e9q))
  try simp only [Act.put, lgA, lgB, lgC, lgD, lgE, lgF]
  refine wpAnyH_take (i := 1) (v := .string (bs [b0])) rfl (by kernel_rfl) (by kernel_rfl) (by kernel_rfl) (fun _ _ _ h => h) (Or.inl ⟨by rfl, ?hy1d3⟩) (by assumption) ?rest1d3
  case hy1d3 => intro w hSw; (try dsimp only at hSw); go_simp; (try (first | (with_reducible rfl) | rfl | exact e8q | exact e9q))
  try simp only [Act.put, lgA, lgB, lgC, lgD, lgE, lgF]
  refine wpAnyH_take (i := 2) (v := ?v2d3) rfl (by kernel_rfl) (by kernel_rfl) (by kernel_rfl) (fun _ _ _ h => h) (Or.inl ⟨by rfl, ?hy2d3⟩) (by assumption) ?rest2d3
  case hy2d3 => intro w hSw; (try dsimp only at hSw); go_simp; (try (first | (with_reducible rfl) | rfl | exact e8q | exact e9q))
  try simp only [Act.put, lgA, lgB, lgC, lgD, lgE, lgF]
  refine wpAnyH_take (i := 3) (v := ?v3d3) rfl (by kernel_rfl) (by kernel_rfl) (by kernel_rfl) (fun _ _ _ h => h) (Or.inl ⟨by rfl, ?hy3d3⟩) (by assumption) ?rest3d3
  case hy3d3 => intro w hSw; (try dsimp only at hSw); go_simp; (try (first | (with_reducible rfl) | rfl | exact e8q | exact e9q))
  try simp only [Act.put, lgA, lgB, lgC, lgD, lgE, lgF]
  refine wpAnyH_take (i := 4) (v := ?v4d3) rfl (by kernel_rfl) (by kernel_rfl) (by kernel_rfl) (fun _ _ _ h => h) (Or.inl ⟨by rfl, ?hy4d3⟩) (by assumption) ?rest4d3
  case hy4d3 => intro w hSw; (try dsimp only at hSw); go_simp; (try (first | (with_reducible rfl) | rfl | exact e8q | exact e9q))
  try simp only [Act.put, lgA, lgB, lgC, lgD, lgE, lgF]
  refine wpAnyH_take (i := 5) (v := ?v5d3) rfl (by kernel_rfl) (by kernel_rfl) (by kernel_rfl) (fun _ _ _ h => h) (Or.inl ⟨by rfl, ?hy5d3⟩) (by assumption) ?rest5d3
  case hy5d3 => intro w hSw; (try dsimp only at hSw); go_simp; (try (first | (with_reducible rfl) | rfl | exact e8q | exact e9q))
  try simp only [Act.put, lgA, lgB, lgC, lgD, lgE, lgF]
  refine wpAnyH_take (i := 6) (v := .string (bs [])) rfl (by kernel_rfl) (by kernel_rfl) (by kernel_rfl) (fun _ _ _ h => h) (Or.inl ⟨by rfl, ?hy6d3⟩) (by assumption) ?rest6d3
  case hy6d3 => intro w hSw; (try dsimp only at hSw); go_simp; (try (first | (with_reducible rfl) | rfl | exact e8q | exact e9q))
  try simp only [Act.put, lgA, lgB, lgC, lgD, lgE, lgF]
  refine wpAnyH_take (i := 8) (v := ?v8d3) rfl (by kernel_rfl) (by kernel_rfl) (by kernel_rfl) (fun _ _ _ h => h) (Or.inl ⟨by rfl, ?hy8d3⟩) (by assumption) ?rest8d3
  case hy8d3 => intro w hSw; (try dsimp only at hSw); go_simp; (try (first | (with_reducible rfl) | rfl | exact e8q | exact e9q))
  try simp only [Act.put, lgA, lgB, lgC, lgD, lgE, lgF]
  refine wpAnyH_take (i := 9) (v := ?v9d3) rfl (by kernel_rfl) (by kernel_rfl) (by kernel_rfl) (fun _ _ _ h => h) (Or.inl ⟨by rfl, ?hy9d3⟩) (by assumption) ?rest9d3
  case hy9d3 => intro w hSw; (try dsimp only at hSw); go_simp; (try (first | (with_reducible rfl) | rfl | exact e8q | exact e9q))
  try simp only [Act.put, lgA, lgB, lgC, lgD, lgE, lgF]
  refine wpAnyH_take (i := 10) (v := ?v10d3) rfl (by kernel_rfl) (by kernel_rfl) (by kernel_rfl) (fun _ _ _ h => h) (Or.inl ⟨by rfl, ?hy10d3⟩) (by assumption) ?rest10d3
  case hy10d3 => intro w hSw; (try dsimp only at hSw); go_simp; (try (first | (with_reducible rfl) | rfl | exact e8q | exact e9q))
  try simp only [Act.put, lgA, lgB, lgC, lgD, lgE, lgF]
  refine wpAnyH_take (i := 11) (v := ?v11d3) rfl (by kernel_rfl) (by kernel_rfl) (by kernel_rfl) (fun _ _ _ h => h) (Or.inl ⟨by rfl, ?hy11d3⟩) (by assumption) ?rest11d3
  case hy11d3 => intro w hSw; (try dsimp only at hSw); go_simp; (try (first | (with_reducible rfl) | rfl | exact e8q | exact e9q))
  try simp only [Act.put, lgA, lgB, lgC, lgD, lgE, lgF]
  refine wpAnyH_take (i := 12) (v := .int .u8 (b2.toNat : Int)) rfl (by kernel_rfl) (by kernel_rfl) (by kernel_rfl) (fun _ _ _ h => h) (Or.inl ⟨by rfl, ?hy12d3⟩) (by assumption) ?rest12d3
  case hy12d3 => intro w hSw; (try dsimp only at hSw); go_simp; (try (first | (with_reducible rfl) | rfl | exact e8q | exact e9q))
  try simp only [Act.put, lgA, lgB, lgC, lgD, lgE, lgF]
  refine wpAnyH_take (i := 13) (v := .int .i64 (b2.toNat : Int)) rfl (by kernel_rfl) (by kernel_rfl) (by kernel_rfl) (fun _ _ _ h => h) (Or.inl ⟨by rfl, ?hy13d3⟩) (by assumption) ?rest13d3
  case hy13d3 => intro w hSw; (try dsimp only at hSw); go_simp; (try (first | (with_reducible rfl) | rfl | exact e8q | exact e9q))
  try simp only [Act.put, lgA, lgB, lgC, lgD, lgE, lgF]
  refine wpAnyH_take (i := 14) (v := .int .i64 ((b2.toNat : Int) - 48)) rfl (by kernel_rfl) (by kernel_rfl) (by kernel_rfl) (fun _ _ _ h => h) (Or.inl ⟨by rfl, ?hy14d3⟩) (by assumption) ?rest14d3
  case hy14d3 => intro w hSw; (try dsimp only at hSw); go_simp; (try (first | (with_reducible rfl) | rfl | exact e8q | exact e9q))
  try simp only [Act.put, lgA, lgB, lgC, lgD, lgE, lgF]
  refine wpAnyH_ready (rs := [7, 16]) (by kernel_rfl) (by simp) ?_
  refine AllReadyH.cons rfl (fun K hK => ?_) (AllReadyH.cons rfl (fun K hK => ?_) AllReadyH.nil)
  · skip
    go_simp
    refine (HV.out _).mono ?_
    rintro e wA ⟨u, rfl, oA, zA⟩
    obtain ⟨ub, un, uc, rfl⟩ := oI_form1 oA
    replace zA : Below w1.heap.size w1 wA := on (Below.refl _ _).drew zA
    have sA := zA.size
    refine hK.out _ _ ?_ (fun hHeld => ?_)
    · trivial
    clear hK K
    try simp only [Act.put, lgA, lgB, lgC, lgD, lgE, lgF]
    refine wpAnyH_take (i := 15) (v := ?v15a3) rfl (by kernel_rfl) (by kernel_rfl) (by kernel_rfl) (fun _ _ _ h => h) (Or.inl ⟨by rfl, ?hy15a3⟩) (by assumption) ?rest15a3
    case hy15a3 => intro w hSw; (try dsimp only at hSw); go_simp; (try (first | (with_reducible rfl) | rfl | exact e8q | exact e9q))
    try simp only [Act.put, lgA, lgB, lgC, lgD, lgE, lgF]
    refine wpAnyH_ready (rs := [16]) (by kernel_rfl) (by simp) ?_
    refine AllReadyH.cons rfl (fun K hK => ?_) AllReadyH.nil
    go_simp
    obtain ⟨wX, hX⟩ : ∃ W, W = wA.alloc (.cells #[.string (ByteArray.mk #[]), .slice none 0 0, .int .i64 0] 29) := ⟨_, rfl⟩
    have n_0 : wX.cell? ⟨wA.heap.size, 0, none⟩ = some (.string (ByteArray.mk #[])) := by rw [hX]; show (World.alloc wA _).cell? ⟨wA.heap.size, 0, none⟩ = _; exact box_cell (Below.refl _ _) rfl
    have n_1 : wX.cell? ⟨wA.heap.size, 1, none⟩ = some (.slice none 0 0) := by rw [hX]; show (World.alloc wA _).cell? ⟨wA.heap.size, 1, none⟩ = _; exact box_cell (Below.refl _ _) rfl
    have n_2 : wX.cell? ⟨wA.heap.size, 2, none⟩ = some (.int .i64 0) := by rw [hX]; show (World.alloc wA _).cell? ⟨wA.heap.size, 2, none⟩ = _; exact box_cell (Below.refl _ _) rfl
    have n_f0 : wX.frozen? ⟨wA.heap.size, 0, none⟩ = false := by rw [hX]; show (World.alloc wA _).frozen? ⟨wA.heap.size, 0, none⟩ = _; exact box_frozen (Below.refl _ _)
    have n_f1 : wX.frozen? ⟨wA.heap.size, 1, none⟩ = false := by rw [hX]; show (World.alloc wA _).frozen? ⟨wA.heap.size, 1, none⟩ = _; exact box_frozen (Below.refl _ _)
    have n_f2 : wX.frozen? ⟨wA.heap.size, 2, none⟩ = false := by rw [hX]; show (World.alloc wA _).frozen? ⟨wA.heap.size, 2, none⟩ = _; exact box_frozen (Below.refl _ _)
    have zX : Below wA.heap.size wA wX := by rw [hX]; exact (Below.refl _ _).alloc (Nat.le_refl _) _
    have zXq : wX.heap.size = wA.heap.size + 1 := by rw [hX]; simp
    rw [← hX]
    clear hX
    refine hK.out _ _ ?_ (fun hHeld => ?_)
    · trivial
    clear hK K
    try simp only [Act.put, lgA, lgB, lgC, lgD, lgE, lgF]
    have k_0 := ((on zA zX).cell (p := ⟨w.heap.size, 0, none⟩) (by simp only []; omega)).trans r_0
    have k_1 := ((on zA zX).cell (p := ⟨w.heap.size, 1, none⟩) (by simp only []; omega)).trans r_1
    have k_2 := ((on zA zX).cell (p := ⟨w.heap.size, 2, none⟩) (by simp only []; omega)).trans r_2
    have k_f0 := ((on zA zX).frozen (p := ⟨w.heap.size, 0, none⟩) (by simp only []; omega)).trans f_0
    have k_f1 := ((on zA zX).frozen (p := ⟨w.heap.size, 1, none⟩) (by simp only []; omega)).trans f_1
    have k_f2 := ((on zA zX).frozen (p := ⟨w.heap.size, 2, none⟩) (by simp only []; omega)).trans f_2
    have hbY := on (on hb1 zA) zX
    refine wpAnyH_ready (rs := [17]) (by kernel_rfl) (by simp) ?_
    refine AllReadyH.cons rfl (fun K hK => ?_) AllReadyH.nil
    go_simp
    obtain ⟨Wf, hWf⟩ : ∃ W, W = ((wX.setCell ⟨wA.heap.size, 0, none⟩ (.string (bs [b0]))).setCell ⟨wA.heap.size, 1, none⟩ (.slice ub un uc)).setCell ⟨wA.heap.size, 2, none⟩ (.int .i64 ((b2.toNat : Int) - 48)) := ⟨_, rfl⟩
    rw [← hWf]
    refine hK.out _ _ ?_ (fun hHeld => ?_)
    · trivial
    clear hK K
    try simp only [Act.put, lgA, lgB, lgC, lgD, lgE, lgF]
    refine wpAnyH_done (by kernel_rfl) ?_ _
    refine NoPanic.normal ?_
    have x_0 : Wf.cell? ⟨wA.heap.size, 0, none⟩ = some (.string (bs [b0])) := by rw [hWf]; simp [go_sem, n_0, n_1, n_2]
    have x_1 : Wf.cell? ⟨wA.heap.size, 1, none⟩ = some (.slice ub un uc) := by rw [hWf]; simp [go_sem, n_0, n_1, n_2]
    have x_2 : Wf.cell? ⟨wA.heap.size, 2, none⟩ = some (.int .i64 ((b2.toNat : Int) - 48)) := by rw [hWf]; simp [go_sem, n_0, n_1, n_2]
    replace k_0 : Wf.cell? ⟨w.heap.size, 0, none⟩ = some (.string (ByteArray.mk #[])) := by rw [hWf]; exact cell_setD (cell_setD (cell_setD k_0 (by simp only []; omega)) (by simp only []; omega)) (by simp only []; omega)
    replace k_1 : Wf.cell? ⟨w.heap.size, 1, none⟩ = some (.slice none 0 0) := by rw [hWf]; exact cell_setD (cell_setD (cell_setD k_1 (by simp only []; omega)) (by simp only []; omega)) (by simp only []; omega)
    replace k_2 : Wf.cell? ⟨w.heap.size, 2, none⟩ = some (.int .i64 0) := by rw [hWf]; exact cell_setD (cell_setD (cell_setD k_2 (by simp only []; omega)) (by simp only []; omega)) (by simp only []; omega)
    replace k_f0 : Wf.frozen? ⟨w.heap.size, 0, none⟩ = false := by rw [hWf]; simp [go_sem, k_f0]
    replace k_f1 : Wf.frozen? ⟨w.heap.size, 1, none⟩ = false := by rw [hWf]; simp [go_sem, k_f1]
    replace k_f2 : Wf.frozen? ⟨w.heap.size, 2, none⟩ = false := by rw [hWf]; simp [go_sem, k_f2]
    have sf : Wf.heap.size = wX.heap.size := by rw [hWf]; simp [World.setCell]
    have hbF : Below w.heap.size w Wf := by
      rw [hWf]
      repeat (refine Below.setCell ?_ (by simp only []; omega) _)
      exact hbY
    have oF : Own oI (w.heap.size + 1) Wf.heap.size Wf [.slice ub un uc] (vals []) := by
      have zF : Below wA.heap.size wA Wf := by
        rw [hWf]
        repeat (refine Below.setCell ?_ (by simp only []; omega) _)
        exact zX
      refine (oA.below zF (Nat.le_refl _)).mono ?_ (by omega)
      show w.heap.size + 1 ≤ w1.heap.size
      omega
    clear hWf oA n_0 n_1 n_2 n_f0 n_f1 n_f2
    have HOF := Lib.hid oF
    clear oF e8 e9 e8q e9q
    go_wp2_with fail
    refine (fmtDp_spec _ (bs [b0], vals [], (b2.toNat : Int) - 48) _ (rDp_mk (by simp [bs_size]) (HOF.out.rd reads_I) (show I64 ((b2.toNat : Int) - 48) by unfold I64; omega)) (by simp [vals_len])).mono ?_
    rintro e w3 ⟨rfl, z3⟩
    have s3 := z3.size
    have hb3 := on hbF z3
    have o3 := HOF.out.below z3 (Nat.le_refl _)
    replace x_0 := bxc z3 x_0
    replace x_1 := bxc z3 x_1
    replace x_2 := bxc z3 x_2
    replace k_0 := bxc z3 k_0
    replace k_1 := bxc z3 k_1
    replace k_2 := bxc z3 k_2
    replace k_f0 := bxf z3 k_f0
    replace k_f1 := bxf z3 k_f1
    replace k_f2 := bxf z3 k_f2
    obtain ⟨F, hF⟩ : ∃ F, fmtDp (bs [b0], vals [], (b2.toNat : Int) - 48) = F := ⟨_, rfl⟩
    simp only [hF] at HP ⊢
    clear hF
    have hI : I64 ((b2.toNat : Int) - 48) := by unfold I64; omega
    by_cases hq : F = [b0, b1, b2]
    · obtain rfl : P = some (bs [b0], vals [], (b2.toNat : Int) - 48) := by rw [HP.out, if_pos hq]
      subst hq
      have hB : bs [b0, b1, b2] = ByteArray.mk #[b0, b1, b2] := rfl
      rw [hB]
      have HO3 := Lib.hid o3
      clear HP hB o3 HOF HV
      go_wp2_with fail
      refine bodyPost_ret (v := .tuple #[.agg #[.string (bs [b0]), .slice ub un uc, .int .i64 ((b2.toNat : Int) - 48)], .bool true]) (by simp [results, Tryz.results22, go_sem, k_0, k_1, k_2, k_f0, k_f1, k_f2]) rfl ⟨[.string (bs [b0]), .slice ub un uc, .int .i64 ((b2.toNat : Int) - 48)], rfl, ?_, ?_⟩
      · refine Own.mono (lo := w.heap.size + 1) (hi := w3.heap.size) ?_ (by omega) (by simp [World.setCell])
        repeat (refine Own.setOut ?_ rfl (by simp only []; omega))
        exact oDp_mk (x := (bs [b0], vals [], (b2.toNat : Int) - 48)) (by simp [bs_size]) HO3.out hI (by omega) (by omega)
      · repeat (refine Below.setCell ?_ (by simp only []; omega) _)
        exact hb3
    · obtain rfl : P = none := by rw [HP.out, if_neg hq]
      have hne : (F == [b0, b1, b2]) = false := by rw [beq_eq_false_iff_ne]; exact hq
      clear HP hq o3 HOF HV
      go_wp2_with fail
      refine bodyPost_ret (v := .tuple #[.agg #[.string (ByteArray.mk #[]), .slice none 0 0, .int .i64 0], .bool false]) (by simp [results, Tryz.results22, go_sem, k_0, k_1, k_2, k_f0, k_f1, k_f2]) rfl ⟨[.string (ByteArray.mk #[]), .slice none 0 0, .int .i64 0], rfl, ?_, ?_⟩
      · refine Own.mono (lo := w.heap.size + 1) (hi := w3.heap.size) ?_ (by omega) (by simp [World.setCell])
        repeat (refine Own.setOut ?_ rfl (by simp only []; omega))
        exact oDp_mk (x := zeroDp) (by decide) (own_nil_S (B := w.heap.size + 1)) (show I64 0 by unfold I64; omega) (by omega) (by omega)
      · repeat (refine Below.setCell ?_ (by simp only []; omega) _)
        exact hb3
  · skip
    go_simp
    obtain ⟨wX, hX⟩ : ∃ W, W = (w1.alloc (.cells #[.string (ByteArray.mk #[]), .slice none 0 0, .int .i64 0] 29)).drew := ⟨_, rfl⟩
    have n_0 : wX.cell? ⟨w.heap.size + 1, 0, none⟩ = some (.string (ByteArray.mk #[])) := by rw [hX, ← s1]; show (World.alloc w1 _).cell? ⟨w1.heap.size, 0, none⟩ = _; exact box_cell (Below.refl _ _) rfl
    have n_1 : wX.cell? ⟨w.heap.size + 1, 1, none⟩ = some (.slice none 0 0) := by rw [hX, ← s1]; show (World.alloc w1 _).cell? ⟨w1.heap.size, 1, none⟩ = _; exact box_cell (Below.refl _ _) rfl
    have n_2 : wX.cell? ⟨w.heap.size + 1, 2, none⟩ = some (.int .i64 0) := by rw [hX, ← s1]; show (World.alloc w1 _).cell? ⟨w1.heap.size, 2, none⟩ = _; exact box_cell (Below.refl _ _) rfl
    have n_f0 : wX.frozen? ⟨w.heap.size + 1, 0, none⟩ = false := by rw [hX, ← s1]; show (World.alloc w1 _).frozen? ⟨w1.heap.size, 0, none⟩ = _; exact box_frozen (Below.refl _ _)
    have n_f1 : wX.frozen? ⟨w.heap.size + 1, 1, none⟩ = false := by rw [hX, ← s1]; show (World.alloc w1 _).frozen? ⟨w1.heap.size, 1, none⟩ = _; exact box_frozen (Below.refl _ _)
    have n_f2 : wX.frozen? ⟨w.heap.size + 1, 2, none⟩ = false := by rw [hX, ← s1]; show (World.alloc w1 _).frozen? ⟨w1.heap.size, 2, none⟩ = _; exact box_frozen (Below.refl _ _)
    have zX : Below w1.heap.size w1 wX := by rw [hX]; exact ((Below.refl _ _).alloc (Nat.le_refl _) _).drew
    have zXq : wX.heap.size = w.heap.size + 1 + 1 := by rw [hX]; simp [s1]
    rw [← hX]
    clear hX
    refine hK.out _ _ ?_ (fun hHeld => ?_)
    · trivial
    clear hK K
    try simp only [Act.put, lgA, lgB, lgC, lgD, lgE, lgF]
    refine wpAnyH_ready (rs := [7]) (by kernel_rfl) (by simp) ?_
    refine AllReadyH.cons rfl (fun K hK => ?_) AllReadyH.nil
    go_simp
    refine (HV.out _).mono ?_
    rintro e wA ⟨u, rfl, oA, zA⟩
    obtain ⟨ub, un, uc, rfl⟩ := oI_form1 oA
    skip
    have sA := zA.size
    refine hK.out _ _ ?_ (fun hHeld => ?_)
    · trivial
    clear hK K
    try simp only [Act.put, lgA, lgB, lgC, lgD, lgE, lgF]
    refine wpAnyH_take (i := 15) (v := ?v15b3) rfl (by kernel_rfl) (by kernel_rfl) (by kernel_rfl) (fun _ _ _ h => h) (Or.inl ⟨by rfl, ?hy15b3⟩) (by assumption) ?rest15b3
    case hy15b3 => intro w hSw; (try dsimp only at hSw); go_simp; (try (first | (with_reducible rfl) | rfl | exact e8q | exact e9q))
    try simp only [Act.put, lgA, lgB, lgC, lgD, lgE, lgF]
    replace n_0 := bxc zA n_0
    replace n_1 := bxc zA n_1
    replace n_2 := bxc zA n_2
    replace n_f0 := bxf zA n_f0
    replace n_f1 := bxf zA n_f1
    replace n_f2 := bxf zA n_f2
    have zB : Below w1.heap.size w1 wX := zX
    have k_0 := ((on zB zA).cell (p := ⟨w.heap.size, 0, none⟩) (by simp only []; omega)).trans r_0
    have k_1 := ((on zB zA).cell (p := ⟨w.heap.size, 1, none⟩) (by simp only []; omega)).trans r_1
    have k_2 := ((on zB zA).cell (p := ⟨w.heap.size, 2, none⟩) (by simp only []; omega)).trans r_2
    have k_f0 := ((on zB zA).frozen (p := ⟨w.heap.size, 0, none⟩) (by simp only []; omega)).trans f_0
    have k_f1 := ((on zB zA).frozen (p := ⟨w.heap.size, 1, none⟩) (by simp only []; omega)).trans f_1
    have k_f2 := ((on zB zA).frozen (p := ⟨w.heap.size, 2, none⟩) (by simp only []; omega)).trans f_2
    have hbY := on (on hb1 zB) zA
    refine wpAnyH_ready (rs := [17]) (by kernel_rfl) (by simp) ?_
    refine AllReadyH.cons rfl (fun K hK => ?_) AllReadyH.nil
    go_simp
    obtain ⟨Wf, hWf⟩ : ∃ W, W = ((wA.setCell ⟨w.heap.size + 1, 0, none⟩ (.string (bs [b0]))).setCell ⟨w.heap.size + 1, 1, none⟩ (.slice ub un uc)).setCell ⟨w.heap.size + 1, 2, none⟩ (.int .i64 ((b2.toNat : Int) - 48)) := ⟨_, rfl⟩
    rw [← hWf]
    refine hK.out _ _ ?_ (fun hHeld => ?_)
    · trivial
    clear hK K
    try simp only [Act.put, lgA, lgB, lgC, lgD, lgE, lgF]
    refine wpAnyH_done (by kernel_rfl) ?_ _
    refine NoPanic.normal ?_
    have x_0 : Wf.cell? ⟨w.heap.size + 1, 0, none⟩ = some (.string (bs [b0])) := by rw [hWf]; simp [go_sem, n_0, n_1, n_2]
    have x_1 : Wf.cell? ⟨w.heap.size + 1, 1, none⟩ = some (.slice ub un uc) := by rw [hWf]; simp [go_sem, n_0, n_1, n_2]
    have x_2 : Wf.cell? ⟨w.heap.size + 1, 2, none⟩ = some (.int .i64 ((b2.toNat : Int) - 48)) := by rw [hWf]; simp [go_sem, n_0, n_1, n_2]
    replace k_0 : Wf.cell? ⟨w.heap.size, 0, none⟩ = some (.string (ByteArray.mk #[])) := by rw [hWf]; exact cell_setD (cell_setD (cell_setD k_0 (by simp only []; omega)) (by simp only []; omega)) (by simp only []; omega)
    replace k_1 : Wf.cell? ⟨w.heap.size, 1, none⟩ = some (.slice none 0 0) := by rw [hWf]; exact cell_setD (cell_setD (cell_setD k_1 (by simp only []; omega)) (by simp only []; omega)) (by simp only []; omega)
    replace k_2 : Wf.cell? ⟨w.heap.size, 2, none⟩ = some (.int .i64 0) := by rw [hWf]; exact cell_setD (cell_setD (cell_setD k_2 (by simp only []; omega)) (by simp only []; omega)) (by simp only []; omega)
    replace k_f0 : Wf.frozen? ⟨w.heap.size, 0, none⟩ = false := by rw [hWf]; simp [go_sem, k_f0]
    replace k_f1 : Wf.frozen? ⟨w.heap.size, 1, none⟩ = false := by rw [hWf]; simp [go_sem, k_f1]
    replace k_f2 : Wf.frozen? ⟨w.heap.size, 2, none⟩ = false := by rw [hWf]; simp [go_sem, k_f2]
    have sf : Wf.heap.size = wA.heap.size := by rw [hWf]; simp [World.setCell]
    have hbF : Below w.heap.size w Wf := by
      rw [hWf]
      repeat (refine Below.setCell ?_ (by simp only []; omega) _)
      exact hbY
    have oF : Own oI (w.heap.size + 1) Wf.heap.size Wf [.slice ub un uc] (vals []) := by
      rw [hWf]
      refine Own.mono (lo := wX.heap.size) (hi := wA.heap.size) ?_ (by omega) (by simp [World.setCell])
      repeat (refine Own.setOut ?_ rfl (by simp only []; omega))
      exact oA
    clear hWf oA n_0 n_1 n_2 n_f0 n_f1 n_f2
    have HOF := Lib.hid oF
    clear oF e8 e9 e8q e9q
    go_wp2_with fail
    refine (fmtDp_spec _ (bs [b0], vals [], (b2.toNat : Int) - 48) _ (rDp_mk (by simp [bs_size]) (HOF.out.rd reads_I) (show I64 ((b2.toNat : Int) - 48) by unfold I64; omega)) (by simp [vals_len])).mono ?_
    rintro e w3 ⟨rfl, z3⟩
    have s3 := z3.size
    have hb3 := on hbF z3
    have o3 := HOF.out.below z3 (Nat.le_refl _)
    replace x_0 := bxc z3 x_0
    replace x_1 := bxc z3 x_1
    replace x_2 := bxc z3 x_2
    replace k_0 := bxc z3 k_0
    replace k_1 := bxc z3 k_1
    replace k_2 := bxc z3 k_2
    replace k_f0 := bxf z3 k_f0
    replace k_f1 := bxf z3 k_f1
    replace k_f2 := bxf z3 k_f2
    obtain ⟨F, hF⟩ : ∃ F, fmtDp (bs [b0], vals [], (b2.toNat : Int) - 48) = F := ⟨_, rfl⟩
    simp only [hF] at HP ⊢
    clear hF
    have hI : I64 ((b2.toNat : Int) - 48) := by unfold I64; omega
    by_cases hq : F = [b0, b1, b2]
    · obtain rfl : P = some (bs [b0], vals [], (b2.toNat : Int) - 48) := by rw [HP.out, if_pos hq]
      subst hq
      have hB : bs [b0, b1, b2] = ByteArray.mk #[b0, b1, b2] := rfl
      rw [hB]
      have HO3 := Lib.hid o3
      clear HP hB o3 HOF HV
      go_wp2_with fail
      refine bodyPost_ret (v := .tuple #[.agg #[.string (bs [b0]), .slice ub un uc, .int .i64 ((b2.toNat : Int) - 48)], .bool true]) (by simp [results, Tryz.results22, go_sem, k_0, k_1, k_2, k_f0, k_f1, k_f2]) rfl ⟨[.string (bs [b0]), .slice ub un uc, .int .i64 ((b2.toNat : Int) - 48)], rfl, ?_, ?_⟩
      · refine Own.mono (lo := w.heap.size + 1) (hi := w3.heap.size) ?_ (by omega) (by simp [World.setCell])
        repeat (refine Own.setOut ?_ rfl (by simp only []; omega))
        exact oDp_mk (x := (bs [b0], vals [], (b2.toNat : Int) - 48)) (by simp [bs_size]) HO3.out hI (by omega) (by omega)
      · repeat (refine Below.setCell ?_ (by simp only []; omega) _)
        exact hb3
    · obtain rfl : P = none := by rw [HP.out, if_neg hq]
      have hne : (F == [b0, b1, b2]) = false := by rw [beq_eq_false_iff_ne]; exact hq
      clear HP hq o3 HOF HV
      go_wp2_with fail
      refine bodyPost_ret (v := .tuple #[.agg #[.string (ByteArray.mk #[]), .slice none 0 0, .int .i64 0], .bool false]) (by simp [results, Tryz.results22, go_sem, k_0, k_1, k_2, k_f0, k_f1, k_f2]) rfl ⟨[.string (ByteArray.mk #[]), .slice none 0 0, .int .i64 0], rfl, ?_, ?_⟩
      · refine Own.mono (lo := w.heap.size + 1) (hi := w3.heap.size) ?_ (by omega) (by simp [World.setCell])
        repeat (refine Own.setOut ?_ rfl (by simp only []; omega))
        exact oDp_mk (x := zeroDp) (by decide) (own_nil_S (B := w.heap.size + 1)) (show I64 0 by unfold I64; omega) (by omega) (by omega)
      · repeat (refine Below.setCell ?_ (by simp only []; omega) _)
        exact hb3

set_option maxRecDepth 100000 in
set_option maxHeartbeats 4000000 in
theorem parDp_spec4 (b0 b1 b2 b3 : UInt8) (w : World) :
    Calls Tryz.prog 22 #[.string (ByteArray.mk #[b0, b1, b2, b3])] w fun e w' => ∃ cs, e = .returned (.tuple #[.agg cs.toArray, .bool (parDpL [b0, b1, b2, b3]).isSome]) ∧ Own oDp w.heap.size w'.heap.size w' cs ((parDpL [b0, b1, b2, b3]).getD zeroDp) ∧ Below w.heap.size w w' := by
  have HP : Hid (parDpL [b0, b1, b2, b3] = if fmtDp (bs [b0], vals [b1], (b3.toNat : Int) - 48) = [b0, b1, b2, b3] then some (bs [b0], vals [b1], (b3.toNat : Int) - 48) else none) := Lib.hid (by
    show (if _ then _ else _) = _
    simp [rawDp])
  obtain ⟨P, hP⟩ : ∃ P, parDpL [b0, b1, b2, b3] = P := ⟨_, rfl⟩
  rw [hP] at HP ⊢
  clear hP
  have HV : Hid (∀ W, Calls Tryz.prog 59 #[.string (bs [b1])] W fun e w' => ∃ u, e = .returned u ∧ Own oI W.heap.size w'.heap.size w' [u] (vals [b1]) ∧ Below W.heap.size W w') := Lib.hid (fun W => l4Values_any (bs [b1]) W (by simp [bs_size]))
  go_enter Tryz.func22, Tryz.ntmps22
  obtain ⟨w1, hw1⟩ : ∃ W, W = w.alloc (.cells #[.string (ByteArray.mk #[]), .slice none 0 0, .int .i64 0] 29) := ⟨_, rfl⟩
  have hb1 : Below w.heap.size w w1 := by rw [hw1]; exact (Below.refl _ _).alloc (Nat.le_refl _) _
  have s1 : w1.heap.size = w.heap.size + 1 := by rw [hw1]; simp
  have r_0 : w1.cell? ⟨w.heap.size, 0, none⟩ = some (.string (ByteArray.mk #[])) := by rw [hw1]; exact box_cell (Below.refl _ _) rfl
  have r_1 : w1.cell? ⟨w.heap.size, 1, none⟩ = some (.slice none 0 0) := by rw [hw1]; exact box_cell (Below.refl _ _) rfl
  have r_2 : w1.cell? ⟨w.heap.size, 2, none⟩ = some (.int .i64 0) := by rw [hw1]; exact box_cell (Below.refl _ _) rfl
  have f_0 : w1.frozen? ⟨w.heap.size, 0, none⟩ = false := by rw [hw1]; exact box_frozen (Below.refl _ _)
  have f_1 : w1.frozen? ⟨w.heap.size, 1, none⟩ = false := by rw [hw1]; exact box_frozen (Below.refl _ _)
  have f_2 : w1.frozen? ⟨w.heap.size, 2, none⟩ = false := by rw [hw1]; exact box_frozen (Below.refl _ _)
  go_wp2_with fail
  rw [← hw1]
  clear hw1
  have h9 := b3.toNat_lt
  have e8 : wrap64 (b3.toNat : Int) = (b3.toNat : Int) := by unfold wrap64; omega
  have e9 : wrap64 ((b3.toNat : Int) - 48) = (b3.toNat : Int) - 48 := by unfold wrap64; omega
  have e8q : IntKind.i64.wrap (b3.toNat : Int) = (b3.toNat : Int) := IntWalk.i64_in _ (by omega)
  have e9q : IntKind.i64.wrap ((b3.toNat : Int) - 48) = (b3.toNat : Int) - 48 := IntWalk.i64_in _ (by omega)
  refine wp_region_noPanic ?_
  refine wp_region_held_drew (S := (fun W => True)) (by kernel_rfl) ?hS2 (fun hHeld => ?_)
  case hS2 => trivial
  refine wpAnyH_take (i := 0) (v := ?v0d4) rfl (by kernel_rfl) (by kernel_rfl) (by kernel_rfl) (fun _ _ _ h => h) (Or.inl ⟨by rfl, ?hy0d4⟩) (by assumption) ?rest0d4
  case hy0d4 => intro w hSw; (try dsimp only at hSw); go_simp; (try (first | (with_reducible rfl) | rfl | exact e8q | exact e9q))
  try simp only [Act.put, lgA, lgB, lgC, lgD, lgE, lgF]
  refine wpAnyH_take (i := 1) (v := .string (bs [b0])) rfl (by kernel_rfl) (by kernel_rfl) (by kernel_rfl) (fun _ _ _ h => h) (Or.inl ⟨by rfl, ?hy1d4⟩) (by assumption) ?rest1d4
  case hy1d4 => intro w hSw; (try dsimp only at hSw); go_simp; (try (first | (with_reducible rfl) | rfl | exact e8q | exact e9q))
  try simp only [Act.put, lgA, lgB, lgC, lgD, lgE, lgF]
  refine wpAnyH_take (i := 2) (v := ?v2d4) rfl (by kernel_rfl) (by kernel_rfl) (by kernel_rfl) (fun _ _ _ h => h) (Or.inl ⟨by rfl, ?hy2d4⟩) (by assumption) ?rest2d4
  case hy2d4 => intro w hSw; (try dsimp only at hSw); go_simp; (try (first | (with_reducible rfl) | rfl | exact e8q | exact e9q))
  try simp only [Act.put, lgA, lgB, lgC, lgD, lgE, lgF]
  refine wpAnyH_take (i := 3) (v := ?v3d4) rfl (by kernel_rfl) (by kernel_rfl) (by kernel_rfl) (fun _ _ _ h => h) (Or.inl ⟨by rfl, ?hy3d4⟩) (by assumption) ?rest3d4
  case hy3d4 => intro w hSw; (try dsimp only at hSw); go_simp; (try (first | (with_reducible rfl) | rfl | exact e8q | exact e9q))
  try simp only [Act.put, lgA, lgB, lgC, lgD, lgE, lgF]
  refine wpAnyH_take (i := 4) (v := ?v4d4) rfl (by kernel_rfl) (by kernel_rfl) (by kernel_rfl) (fun _ _ _ h => h) (Or.inl ⟨by rfl, ?hy4d4⟩) (by assumption) ?rest4d4
  case hy4d4 => intro w hSw; (try dsimp only at hSw); go_simp; (try (first | (with_reducible rfl) | rfl | exact e8q | exact e9q))
  try simp only [Act.put, lgA, lgB, lgC, lgD, lgE, lgF]
  refine wpAnyH_take (i := 5) (v := ?v5d4) rfl (by kernel_rfl) (by kernel_rfl) (by kernel_rfl) (fun _ _ _ h => h) (Or.inl ⟨by rfl, ?hy5d4⟩) (by assumption) ?rest5d4
  case hy5d4 => intro w hSw; (try dsimp only at hSw); go_simp; (try (first | (with_reducible rfl) | rfl | exact e8q | exact e9q))
  try simp only [Act.put, lgA, lgB, lgC, lgD, lgE, lgF]
  refine wpAnyH_take (i := 6) (v := .string (bs [b1])) rfl (by kernel_rfl) (by kernel_rfl) (by kernel_rfl) (fun _ _ _ h => h) (Or.inl ⟨by rfl, ?hy6d4⟩) (by assumption) ?rest6d4
  case hy6d4 => intro w hSw; (try dsimp only at hSw); go_simp; (try (first | (with_reducible rfl) | rfl | exact e8q | exact e9q))
  try simp only [Act.put, lgA, lgB, lgC, lgD, lgE, lgF]
  refine wpAnyH_take (i := 8) (v := ?v8d4) rfl (by kernel_rfl) (by kernel_rfl) (by kernel_rfl) (fun _ _ _ h => h) (Or.inl ⟨by rfl, ?hy8d4⟩) (by assumption) ?rest8d4
  case hy8d4 => intro w hSw; (try dsimp only at hSw); go_simp; (try (first | (with_reducible rfl) | rfl | exact e8q | exact e9q))
  try simp only [Act.put, lgA, lgB, lgC, lgD, lgE, lgF]
  refine wpAnyH_take (i := 9) (v := ?v9d4) rfl (by kernel_rfl) (by kernel_rfl) (by kernel_rfl) (fun _ _ _ h => h) (Or.inl ⟨by rfl, ?hy9d4⟩) (by assumption) ?rest9d4
  case hy9d4 => intro w hSw; (try dsimp only at hSw); go_simp; (try (first | (with_reducible rfl) | rfl | exact e8q | exact e9q))
  try simp only [Act.put, lgA, lgB, lgC, lgD, lgE, lgF]
  refine wpAnyH_take (i := 10) (v := ?v10d4) rfl (by kernel_rfl) (by kernel_rfl) (by kernel_rfl) (fun _ _ _ h => h) (Or.inl ⟨by rfl, ?hy10d4⟩) (by assumption) ?rest10d4
  case hy10d4 => intro w hSw; (try dsimp only at hSw); go_simp; (try (first | (with_reducible rfl) | rfl | exact e8q | exact e9q))
  try simp only [Act.put, lgA, lgB, lgC, lgD, lgE, lgF]
  refine wpAnyH_take (i := 11) (v := ?v11d4) rfl (by kernel_rfl) (by kernel_rfl) (by kernel_rfl) (fun _ _ _ h => h) (Or.inl ⟨by rfl, ?hy11d4⟩) (by assumption) ?rest11d4
  case hy11d4 => intro w hSw; (try dsimp only at hSw); go_simp; (try (first | (with_reducible rfl) | rfl | exact e8q | exact e9q))
  try simp only [Act.put, lgA, lgB, lgC, lgD, lgE, lgF]
  refine wpAnyH_take (i := 12) (v := .int .u8 (b3.toNat : Int)) rfl (by kernel_rfl) (by kernel_rfl) (by kernel_rfl) (fun _ _ _ h => h) (Or.inl ⟨by rfl, ?hy12d4⟩) (by assumption) ?rest12d4
  case hy12d4 => intro w hSw; (try dsimp only at hSw); go_simp; (try (first | (with_reducible rfl) | rfl | exact e8q | exact e9q))
  try simp only [Act.put, lgA, lgB, lgC, lgD, lgE, lgF]
  refine wpAnyH_take (i := 13) (v := .int .i64 (b3.toNat : Int)) rfl (by kernel_rfl) (by kernel_rfl) (by kernel_rfl) (fun _ _ _ h => h) (Or.inl ⟨by rfl, ?hy13d4⟩) (by assumption) ?rest13d4
  case hy13d4 => intro w hSw; (try dsimp only at hSw); go_simp; (try (first | (with_reducible rfl) | rfl | exact e8q | exact e9q))
  try simp only [Act.put, lgA, lgB, lgC, lgD, lgE, lgF]
  refine wpAnyH_take (i := 14) (v := .int .i64 ((b3.toNat : Int) - 48)) rfl (by kernel_rfl) (by kernel_rfl) (by kernel_rfl) (fun _ _ _ h => h) (Or.inl ⟨by rfl, ?hy14d4⟩) (by assumption) ?rest14d4
  case hy14d4 => intro w hSw; (try dsimp only at hSw); go_simp; (try (first | (with_reducible rfl) | rfl | exact e8q | exact e9q))
  try simp only [Act.put, lgA, lgB, lgC, lgD, lgE, lgF]
  refine wpAnyH_ready (rs := [7, 16]) (by kernel_rfl) (by simp) ?_
  refine AllReadyH.cons rfl (fun K hK => ?_) (AllReadyH.cons rfl (fun K hK => ?_) AllReadyH.nil)
  · skip
    go_simp
    refine (HV.out _).mono ?_
    rintro e wA ⟨u, rfl, oA, zA⟩
    obtain ⟨ub, un, uc, rfl⟩ := oI_form1 oA
    replace zA : Below w1.heap.size w1 wA := on (Below.refl _ _).drew zA
    have sA := zA.size
    refine hK.out _ _ ?_ (fun hHeld => ?_)
    · trivial
    clear hK K
    try simp only [Act.put, lgA, lgB, lgC, lgD, lgE, lgF]
    refine wpAnyH_take (i := 15) (v := ?v15a4) rfl (by kernel_rfl) (by kernel_rfl) (by kernel_rfl) (fun _ _ _ h => h) (Or.inl ⟨by rfl, ?hy15a4⟩) (by assumption) ?rest15a4
    case hy15a4 => intro w hSw; (try dsimp only at hSw); go_simp; (try (first | (with_reducible rfl) | rfl | exact e8q | exact e9q))
    try simp only [Act.put, lgA, lgB, lgC, lgD, lgE, lgF]
    refine wpAnyH_ready (rs := [16]) (by kernel_rfl) (by simp) ?_
    refine AllReadyH.cons rfl (fun K hK => ?_) AllReadyH.nil
    go_simp
    obtain ⟨wX, hX⟩ : ∃ W, W = wA.alloc (.cells #[.string (ByteArray.mk #[]), .slice none 0 0, .int .i64 0] 29) := ⟨_, rfl⟩
    have n_0 : wX.cell? ⟨wA.heap.size, 0, none⟩ = some (.string (ByteArray.mk #[])) := by rw [hX]; show (World.alloc wA _).cell? ⟨wA.heap.size, 0, none⟩ = _; exact box_cell (Below.refl _ _) rfl
    have n_1 : wX.cell? ⟨wA.heap.size, 1, none⟩ = some (.slice none 0 0) := by rw [hX]; show (World.alloc wA _).cell? ⟨wA.heap.size, 1, none⟩ = _; exact box_cell (Below.refl _ _) rfl
    have n_2 : wX.cell? ⟨wA.heap.size, 2, none⟩ = some (.int .i64 0) := by rw [hX]; show (World.alloc wA _).cell? ⟨wA.heap.size, 2, none⟩ = _; exact box_cell (Below.refl _ _) rfl
    have n_f0 : wX.frozen? ⟨wA.heap.size, 0, none⟩ = false := by rw [hX]; show (World.alloc wA _).frozen? ⟨wA.heap.size, 0, none⟩ = _; exact box_frozen (Below.refl _ _)
    have n_f1 : wX.frozen? ⟨wA.heap.size, 1, none⟩ = false := by rw [hX]; show (World.alloc wA _).frozen? ⟨wA.heap.size, 1, none⟩ = _; exact box_frozen (Below.refl _ _)
    have n_f2 : wX.frozen? ⟨wA.heap.size, 2, none⟩ = false := by rw [hX]; show (World.alloc wA _).frozen? ⟨wA.heap.size, 2, none⟩ = _; exact box_frozen (Below.refl _ _)
    have zX : Below wA.heap.size wA wX := by rw [hX]; exact (Below.refl _ _).alloc (Nat.le_refl _) _
    have zXq : wX.heap.size = wA.heap.size + 1 := by rw [hX]; simp
    rw [← hX]
    clear hX
    refine hK.out _ _ ?_ (fun hHeld => ?_)
    · trivial
    clear hK K
    try simp only [Act.put, lgA, lgB, lgC, lgD, lgE, lgF]
    have k_0 := ((on zA zX).cell (p := ⟨w.heap.size, 0, none⟩) (by simp only []; omega)).trans r_0
    have k_1 := ((on zA zX).cell (p := ⟨w.heap.size, 1, none⟩) (by simp only []; omega)).trans r_1
    have k_2 := ((on zA zX).cell (p := ⟨w.heap.size, 2, none⟩) (by simp only []; omega)).trans r_2
    have k_f0 := ((on zA zX).frozen (p := ⟨w.heap.size, 0, none⟩) (by simp only []; omega)).trans f_0
    have k_f1 := ((on zA zX).frozen (p := ⟨w.heap.size, 1, none⟩) (by simp only []; omega)).trans f_1
    have k_f2 := ((on zA zX).frozen (p := ⟨w.heap.size, 2, none⟩) (by simp only []; omega)).trans f_2
    have hbY := on (on hb1 zA) zX
    refine wpAnyH_ready (rs := [17]) (by kernel_rfl) (by simp) ?_
    refine AllReadyH.cons rfl (fun K hK => ?_) AllReadyH.nil
    go_simp
    obtain ⟨Wf, hWf⟩ : ∃ W, W = ((wX.setCell ⟨wA.heap.size, 0, none⟩ (.string (bs [b0]))).setCell ⟨wA.heap.size, 1, none⟩ (.slice ub un uc)).setCell ⟨wA.heap.size, 2, none⟩ (.int .i64 ((b3.toNat : Int) - 48)) := ⟨_, rfl⟩
    rw [← hWf]
    refine hK.out _ _ ?_ (fun hHeld => ?_)
    · trivial
    clear hK K
    try simp only [Act.put, lgA, lgB, lgC, lgD, lgE, lgF]
    refine wpAnyH_done (by kernel_rfl) ?_ _
    refine NoPanic.normal ?_
    have x_0 : Wf.cell? ⟨wA.heap.size, 0, none⟩ = some (.string (bs [b0])) := by rw [hWf]; simp [go_sem, n_0, n_1, n_2]
    have x_1 : Wf.cell? ⟨wA.heap.size, 1, none⟩ = some (.slice ub un uc) := by rw [hWf]; simp [go_sem, n_0, n_1, n_2]
    have x_2 : Wf.cell? ⟨wA.heap.size, 2, none⟩ = some (.int .i64 ((b3.toNat : Int) - 48)) := by rw [hWf]; simp [go_sem, n_0, n_1, n_2]
    replace k_0 : Wf.cell? ⟨w.heap.size, 0, none⟩ = some (.string (ByteArray.mk #[])) := by rw [hWf]; exact cell_setD (cell_setD (cell_setD k_0 (by simp only []; omega)) (by simp only []; omega)) (by simp only []; omega)
    replace k_1 : Wf.cell? ⟨w.heap.size, 1, none⟩ = some (.slice none 0 0) := by rw [hWf]; exact cell_setD (cell_setD (cell_setD k_1 (by simp only []; omega)) (by simp only []; omega)) (by simp only []; omega)
    replace k_2 : Wf.cell? ⟨w.heap.size, 2, none⟩ = some (.int .i64 0) := by rw [hWf]; exact cell_setD (cell_setD (cell_setD k_2 (by simp only []; omega)) (by simp only []; omega)) (by simp only []; omega)
    replace k_f0 : Wf.frozen? ⟨w.heap.size, 0, none⟩ = false := by rw [hWf]; simp [go_sem, k_f0]
    replace k_f1 : Wf.frozen? ⟨w.heap.size, 1, none⟩ = false := by rw [hWf]; simp [go_sem, k_f1]
    replace k_f2 : Wf.frozen? ⟨w.heap.size, 2, none⟩ = false := by rw [hWf]; simp [go_sem, k_f2]
    have sf : Wf.heap.size = wX.heap.size := by rw [hWf]; simp [World.setCell]
    have hbF : Below w.heap.size w Wf := by
      rw [hWf]
      repeat (refine Below.setCell ?_ (by simp only []; omega) _)
      exact hbY
    have oF : Own oI (w.heap.size + 1) Wf.heap.size Wf [.slice ub un uc] (vals [b1]) := by
      have zF : Below wA.heap.size wA Wf := by
        rw [hWf]
        repeat (refine Below.setCell ?_ (by simp only []; omega) _)
        exact zX
      refine (oA.below zF (Nat.le_refl _)).mono ?_ (by omega)
      show w.heap.size + 1 ≤ w1.heap.size
      omega
    clear hWf oA n_0 n_1 n_2 n_f0 n_f1 n_f2
    have HOF := Lib.hid oF
    clear oF e8 e9 e8q e9q
    go_wp2_with fail
    refine (fmtDp_spec _ (bs [b0], vals [b1], (b3.toNat : Int) - 48) _ (rDp_mk (by simp [bs_size]) (HOF.out.rd reads_I) (show I64 ((b3.toNat : Int) - 48) by unfold I64; omega)) (by simp [vals_len])).mono ?_
    rintro e w3 ⟨rfl, z3⟩
    have s3 := z3.size
    have hb3 := on hbF z3
    have o3 := HOF.out.below z3 (Nat.le_refl _)
    replace x_0 := bxc z3 x_0
    replace x_1 := bxc z3 x_1
    replace x_2 := bxc z3 x_2
    replace k_0 := bxc z3 k_0
    replace k_1 := bxc z3 k_1
    replace k_2 := bxc z3 k_2
    replace k_f0 := bxf z3 k_f0
    replace k_f1 := bxf z3 k_f1
    replace k_f2 := bxf z3 k_f2
    obtain ⟨F, hF⟩ : ∃ F, fmtDp (bs [b0], vals [b1], (b3.toNat : Int) - 48) = F := ⟨_, rfl⟩
    simp only [hF] at HP ⊢
    clear hF
    have hI : I64 ((b3.toNat : Int) - 48) := by unfold I64; omega
    by_cases hq : F = [b0, b1, b2, b3]
    · obtain rfl : P = some (bs [b0], vals [b1], (b3.toNat : Int) - 48) := by rw [HP.out, if_pos hq]
      subst hq
      have hB : bs [b0, b1, b2, b3] = ByteArray.mk #[b0, b1, b2, b3] := rfl
      rw [hB]
      have HO3 := Lib.hid o3
      clear HP hB o3 HOF HV
      go_wp2_with fail
      refine bodyPost_ret (v := .tuple #[.agg #[.string (bs [b0]), .slice ub un uc, .int .i64 ((b3.toNat : Int) - 48)], .bool true]) (by simp [results, Tryz.results22, go_sem, k_0, k_1, k_2, k_f0, k_f1, k_f2]) rfl ⟨[.string (bs [b0]), .slice ub un uc, .int .i64 ((b3.toNat : Int) - 48)], rfl, ?_, ?_⟩
      · refine Own.mono (lo := w.heap.size + 1) (hi := w3.heap.size) ?_ (by omega) (by simp [World.setCell])
        repeat (refine Own.setOut ?_ rfl (by simp only []; omega))
        exact oDp_mk (x := (bs [b0], vals [b1], (b3.toNat : Int) - 48)) (by simp [bs_size]) HO3.out hI (by omega) (by omega)
      · repeat (refine Below.setCell ?_ (by simp only []; omega) _)
        exact hb3
    · obtain rfl : P = none := by rw [HP.out, if_neg hq]
      have hne : (F == [b0, b1, b2, b3]) = false := by rw [beq_eq_false_iff_ne]; exact hq
      clear HP hq o3 HOF HV
      go_wp2_with fail
      refine bodyPost_ret (v := .tuple #[.agg #[.string (ByteArray.mk #[]), .slice none 0 0, .int .i64 0], .bool false]) (by simp [results, Tryz.results22, go_sem, k_0, k_1, k_2, k_f0, k_f1, k_f2]) rfl ⟨[.string (ByteArray.mk #[]), .slice none 0 0, .int .i64 0], rfl, ?_, ?_⟩
      · refine Own.mono (lo := w.heap.size + 1) (hi := w3.heap.size) ?_ (by omega) (by simp [World.setCell])
        repeat (refine Own.setOut ?_ rfl (by simp only []; omega))
        exact oDp_mk (x := zeroDp) (by decide) (own_nil_S (B := w.heap.size + 1)) (show I64 0 by unfold I64; omega) (by omega) (by omega)
      · repeat (refine Below.setCell ?_ (by simp only []; omega) _)
        exact hb3
  · skip
    go_simp
    obtain ⟨wX, hX⟩ : ∃ W, W = (w1.alloc (.cells #[.string (ByteArray.mk #[]), .slice none 0 0, .int .i64 0] 29)).drew := ⟨_, rfl⟩
    have n_0 : wX.cell? ⟨w.heap.size + 1, 0, none⟩ = some (.string (ByteArray.mk #[])) := by rw [hX, ← s1]; show (World.alloc w1 _).cell? ⟨w1.heap.size, 0, none⟩ = _; exact box_cell (Below.refl _ _) rfl
    have n_1 : wX.cell? ⟨w.heap.size + 1, 1, none⟩ = some (.slice none 0 0) := by rw [hX, ← s1]; show (World.alloc w1 _).cell? ⟨w1.heap.size, 1, none⟩ = _; exact box_cell (Below.refl _ _) rfl
    have n_2 : wX.cell? ⟨w.heap.size + 1, 2, none⟩ = some (.int .i64 0) := by rw [hX, ← s1]; show (World.alloc w1 _).cell? ⟨w1.heap.size, 2, none⟩ = _; exact box_cell (Below.refl _ _) rfl
    have n_f0 : wX.frozen? ⟨w.heap.size + 1, 0, none⟩ = false := by rw [hX, ← s1]; show (World.alloc w1 _).frozen? ⟨w1.heap.size, 0, none⟩ = _; exact box_frozen (Below.refl _ _)
    have n_f1 : wX.frozen? ⟨w.heap.size + 1, 1, none⟩ = false := by rw [hX, ← s1]; show (World.alloc w1 _).frozen? ⟨w1.heap.size, 1, none⟩ = _; exact box_frozen (Below.refl _ _)
    have n_f2 : wX.frozen? ⟨w.heap.size + 1, 2, none⟩ = false := by rw [hX, ← s1]; show (World.alloc w1 _).frozen? ⟨w1.heap.size, 2, none⟩ = _; exact box_frozen (Below.refl _ _)
    have zX : Below w1.heap.size w1 wX := by rw [hX]; exact ((Below.refl _ _).alloc (Nat.le_refl _) _).drew
    have zXq : wX.heap.size = w.heap.size + 1 + 1 := by rw [hX]; simp [s1]
    rw [← hX]
    clear hX
    refine hK.out _ _ ?_ (fun hHeld => ?_)
    · trivial
    clear hK K
    try simp only [Act.put, lgA, lgB, lgC, lgD, lgE, lgF]
    refine wpAnyH_ready (rs := [7]) (by kernel_rfl) (by simp) ?_
    refine AllReadyH.cons rfl (fun K hK => ?_) AllReadyH.nil
    go_simp
    refine (HV.out _).mono ?_
    rintro e wA ⟨u, rfl, oA, zA⟩
    obtain ⟨ub, un, uc, rfl⟩ := oI_form1 oA
    skip
    have sA := zA.size
    refine hK.out _ _ ?_ (fun hHeld => ?_)
    · trivial
    clear hK K
    try simp only [Act.put, lgA, lgB, lgC, lgD, lgE, lgF]
    refine wpAnyH_take (i := 15) (v := ?v15b4) rfl (by kernel_rfl) (by kernel_rfl) (by kernel_rfl) (fun _ _ _ h => h) (Or.inl ⟨by rfl, ?hy15b4⟩) (by assumption) ?rest15b4
    case hy15b4 => intro w hSw; (try dsimp only at hSw); go_simp; (try (first | (with_reducible rfl) | rfl | exact e8q | exact e9q))
    try simp only [Act.put, lgA, lgB, lgC, lgD, lgE, lgF]
    replace n_0 := bxc zA n_0
    replace n_1 := bxc zA n_1
    replace n_2 := bxc zA n_2
    replace n_f0 := bxf zA n_f0
    replace n_f1 := bxf zA n_f1
    replace n_f2 := bxf zA n_f2
    have zB : Below w1.heap.size w1 wX := zX
    have k_0 := ((on zB zA).cell (p := ⟨w.heap.size, 0, none⟩) (by simp only []; omega)).trans r_0
    have k_1 := ((on zB zA).cell (p := ⟨w.heap.size, 1, none⟩) (by simp only []; omega)).trans r_1
    have k_2 := ((on zB zA).cell (p := ⟨w.heap.size, 2, none⟩) (by simp only []; omega)).trans r_2
    have k_f0 := ((on zB zA).frozen (p := ⟨w.heap.size, 0, none⟩) (by simp only []; omega)).trans f_0
    have k_f1 := ((on zB zA).frozen (p := ⟨w.heap.size, 1, none⟩) (by simp only []; omega)).trans f_1
    have k_f2 := ((on zB zA).frozen (p := ⟨w.heap.size, 2, none⟩) (by simp only []; omega)).trans f_2
    have hbY := on (on hb1 zB) zA
    refine wpAnyH_ready (rs := [17]) (by kernel_rfl) (by simp) ?_
    refine AllReadyH.cons rfl (fun K hK => ?_) AllReadyH.nil
    go_simp
    obtain ⟨Wf, hWf⟩ : ∃ W, W = ((wA.setCell ⟨w.heap.size + 1, 0, none⟩ (.string (bs [b0]))).setCell ⟨w.heap.size + 1, 1, none⟩ (.slice ub un uc)).setCell ⟨w.heap.size + 1, 2, none⟩ (.int .i64 ((b3.toNat : Int) - 48)) := ⟨_, rfl⟩
    rw [← hWf]
    refine hK.out _ _ ?_ (fun hHeld => ?_)
    · trivial
    clear hK K
    try simp only [Act.put, lgA, lgB, lgC, lgD, lgE, lgF]
    refine wpAnyH_done (by kernel_rfl) ?_ _
    refine NoPanic.normal ?_
    have x_0 : Wf.cell? ⟨w.heap.size + 1, 0, none⟩ = some (.string (bs [b0])) := by rw [hWf]; simp [go_sem, n_0, n_1, n_2]
    have x_1 : Wf.cell? ⟨w.heap.size + 1, 1, none⟩ = some (.slice ub un uc) := by rw [hWf]; simp [go_sem, n_0, n_1, n_2]
    have x_2 : Wf.cell? ⟨w.heap.size + 1, 2, none⟩ = some (.int .i64 ((b3.toNat : Int) - 48)) := by rw [hWf]; simp [go_sem, n_0, n_1, n_2]
    replace k_0 : Wf.cell? ⟨w.heap.size, 0, none⟩ = some (.string (ByteArray.mk #[])) := by rw [hWf]; exact cell_setD (cell_setD (cell_setD k_0 (by simp only []; omega)) (by simp only []; omega)) (by simp only []; omega)
    replace k_1 : Wf.cell? ⟨w.heap.size, 1, none⟩ = some (.slice none 0 0) := by rw [hWf]; exact cell_setD (cell_setD (cell_setD k_1 (by simp only []; omega)) (by simp only []; omega)) (by simp only []; omega)
    replace k_2 : Wf.cell? ⟨w.heap.size, 2, none⟩ = some (.int .i64 0) := by rw [hWf]; exact cell_setD (cell_setD (cell_setD k_2 (by simp only []; omega)) (by simp only []; omega)) (by simp only []; omega)
    replace k_f0 : Wf.frozen? ⟨w.heap.size, 0, none⟩ = false := by rw [hWf]; simp [go_sem, k_f0]
    replace k_f1 : Wf.frozen? ⟨w.heap.size, 1, none⟩ = false := by rw [hWf]; simp [go_sem, k_f1]
    replace k_f2 : Wf.frozen? ⟨w.heap.size, 2, none⟩ = false := by rw [hWf]; simp [go_sem, k_f2]
    have sf : Wf.heap.size = wA.heap.size := by rw [hWf]; simp [World.setCell]
    have hbF : Below w.heap.size w Wf := by
      rw [hWf]
      repeat (refine Below.setCell ?_ (by simp only []; omega) _)
      exact hbY
    have oF : Own oI (w.heap.size + 1) Wf.heap.size Wf [.slice ub un uc] (vals [b1]) := by
      rw [hWf]
      refine Own.mono (lo := wX.heap.size) (hi := wA.heap.size) ?_ (by omega) (by simp [World.setCell])
      repeat (refine Own.setOut ?_ rfl (by simp only []; omega))
      exact oA
    clear hWf oA n_0 n_1 n_2 n_f0 n_f1 n_f2
    have HOF := Lib.hid oF
    clear oF e8 e9 e8q e9q
    go_wp2_with fail
    refine (fmtDp_spec _ (bs [b0], vals [b1], (b3.toNat : Int) - 48) _ (rDp_mk (by simp [bs_size]) (HOF.out.rd reads_I) (show I64 ((b3.toNat : Int) - 48) by unfold I64; omega)) (by simp [vals_len])).mono ?_
    rintro e w3 ⟨rfl, z3⟩
    have s3 := z3.size
    have hb3 := on hbF z3
    have o3 := HOF.out.below z3 (Nat.le_refl _)
    replace x_0 := bxc z3 x_0
    replace x_1 := bxc z3 x_1
    replace x_2 := bxc z3 x_2
    replace k_0 := bxc z3 k_0
    replace k_1 := bxc z3 k_1
    replace k_2 := bxc z3 k_2
    replace k_f0 := bxf z3 k_f0
    replace k_f1 := bxf z3 k_f1
    replace k_f2 := bxf z3 k_f2
    obtain ⟨F, hF⟩ : ∃ F, fmtDp (bs [b0], vals [b1], (b3.toNat : Int) - 48) = F := ⟨_, rfl⟩
    simp only [hF] at HP ⊢
    clear hF
    have hI : I64 ((b3.toNat : Int) - 48) := by unfold I64; omega
    by_cases hq : F = [b0, b1, b2, b3]
    · obtain rfl : P = some (bs [b0], vals [b1], (b3.toNat : Int) - 48) := by rw [HP.out, if_pos hq]
      subst hq
      have hB : bs [b0, b1, b2, b3] = ByteArray.mk #[b0, b1, b2, b3] := rfl
      rw [hB]
      have HO3 := Lib.hid o3
      clear HP hB o3 HOF HV
      go_wp2_with fail
      refine bodyPost_ret (v := .tuple #[.agg #[.string (bs [b0]), .slice ub un uc, .int .i64 ((b3.toNat : Int) - 48)], .bool true]) (by simp [results, Tryz.results22, go_sem, k_0, k_1, k_2, k_f0, k_f1, k_f2]) rfl ⟨[.string (bs [b0]), .slice ub un uc, .int .i64 ((b3.toNat : Int) - 48)], rfl, ?_, ?_⟩
      · refine Own.mono (lo := w.heap.size + 1) (hi := w3.heap.size) ?_ (by omega) (by simp [World.setCell])
        repeat (refine Own.setOut ?_ rfl (by simp only []; omega))
        exact oDp_mk (x := (bs [b0], vals [b1], (b3.toNat : Int) - 48)) (by simp [bs_size]) HO3.out hI (by omega) (by omega)
      · repeat (refine Below.setCell ?_ (by simp only []; omega) _)
        exact hb3
    · obtain rfl : P = none := by rw [HP.out, if_neg hq]
      have hne : (F == [b0, b1, b2, b3]) = false := by rw [beq_eq_false_iff_ne]; exact hq
      clear HP hq o3 HOF HV
      go_wp2_with fail
      refine bodyPost_ret (v := .tuple #[.agg #[.string (ByteArray.mk #[]), .slice none 0 0, .int .i64 0], .bool false]) (by simp [results, Tryz.results22, go_sem, k_0, k_1, k_2, k_f0, k_f1, k_f2]) rfl ⟨[.string (ByteArray.mk #[]), .slice none 0 0, .int .i64 0], rfl, ?_, ?_⟩
      · refine Own.mono (lo := w.heap.size + 1) (hi := w3.heap.size) ?_ (by omega) (by simp [World.setCell])
        repeat (refine Own.setOut ?_ rfl (by simp only []; omega))
        exact oDp_mk (x := zeroDp) (by decide) (own_nil_S (B := w.heap.size + 1)) (show I64 0 by unfold I64; omega) (by omega) (by omega)
      · repeat (refine Below.setCell ?_ (by simp only []; omega) _)
        exact hb3

set_option maxRecDepth 100000 in
set_option maxHeartbeats 4000000 in
theorem parDp_spec5 (b0 b1 b2 b3 b4 : UInt8) (w : World) :
    Calls Tryz.prog 22 #[.string (ByteArray.mk #[b0, b1, b2, b3, b4])] w fun e w' => ∃ cs, e = .returned (.tuple #[.agg cs.toArray, .bool (parDpL [b0, b1, b2, b3, b4]).isSome]) ∧ Own oDp w.heap.size w'.heap.size w' cs ((parDpL [b0, b1, b2, b3, b4]).getD zeroDp) ∧ Below w.heap.size w w' := by
  have HP : Hid (parDpL [b0, b1, b2, b3, b4] = if fmtDp (bs [b0], vals [b1, b2], (b4.toNat : Int) - 48) = [b0, b1, b2, b3, b4] then some (bs [b0], vals [b1, b2], (b4.toNat : Int) - 48) else none) := Lib.hid (by
    show (if _ then _ else _) = _
    simp [rawDp])
  obtain ⟨P, hP⟩ : ∃ P, parDpL [b0, b1, b2, b3, b4] = P := ⟨_, rfl⟩
  rw [hP] at HP ⊢
  clear hP
  have HV : Hid (∀ W, Calls Tryz.prog 59 #[.string (bs [b1, b2])] W fun e w' => ∃ u, e = .returned u ∧ Own oI W.heap.size w'.heap.size w' [u] (vals [b1, b2]) ∧ Below W.heap.size W w') := Lib.hid (fun W => l4Values_any (bs [b1, b2]) W (by simp [bs_size]))
  go_enter Tryz.func22, Tryz.ntmps22
  obtain ⟨w1, hw1⟩ : ∃ W, W = w.alloc (.cells #[.string (ByteArray.mk #[]), .slice none 0 0, .int .i64 0] 29) := ⟨_, rfl⟩
  have hb1 : Below w.heap.size w w1 := by rw [hw1]; exact (Below.refl _ _).alloc (Nat.le_refl _) _
  have s1 : w1.heap.size = w.heap.size + 1 := by rw [hw1]; simp
  have r_0 : w1.cell? ⟨w.heap.size, 0, none⟩ = some (.string (ByteArray.mk #[])) := by rw [hw1]; exact box_cell (Below.refl _ _) rfl
  have r_1 : w1.cell? ⟨w.heap.size, 1, none⟩ = some (.slice none 0 0) := by rw [hw1]; exact box_cell (Below.refl _ _) rfl
  have r_2 : w1.cell? ⟨w.heap.size, 2, none⟩ = some (.int .i64 0) := by rw [hw1]; exact box_cell (Below.refl _ _) rfl
  have f_0 : w1.frozen? ⟨w.heap.size, 0, none⟩ = false := by rw [hw1]; exact box_frozen (Below.refl _ _)
  have f_1 : w1.frozen? ⟨w.heap.size, 1, none⟩ = false := by rw [hw1]; exact box_frozen (Below.refl _ _)
  have f_2 : w1.frozen? ⟨w.heap.size, 2, none⟩ = false := by rw [hw1]; exact box_frozen (Below.refl _ _)
  go_wp2_with fail
  rw [← hw1]
  clear hw1
  have h9 := b4.toNat_lt
  have e8 : wrap64 (b4.toNat : Int) = (b4.toNat : Int) := by unfold wrap64; omega
  have e9 : wrap64 ((b4.toNat : Int) - 48) = (b4.toNat : Int) - 48 := by unfold wrap64; omega
  have e8q : IntKind.i64.wrap (b4.toNat : Int) = (b4.toNat : Int) := IntWalk.i64_in _ (by omega)
  have e9q : IntKind.i64.wrap ((b4.toNat : Int) - 48) = (b4.toNat : Int) - 48 := IntWalk.i64_in _ (by omega)
  refine wp_region_noPanic ?_
  refine wp_region_held_drew (S := (fun W => True)) (by kernel_rfl) ?hS2 (fun hHeld => ?_)
  case hS2 => trivial
  refine wpAnyH_take (i := 0) (v := ?v0d5) rfl (by kernel_rfl) (by kernel_rfl) (by kernel_rfl) (fun _ _ _ h => h) (Or.inl ⟨by rfl, ?hy0d5⟩) (by assumption) ?rest0d5
  case hy0d5 => intro w hSw; (try dsimp only at hSw); go_simp; (try (first | (with_reducible rfl) | rfl | exact e8q | exact e9q))
  try simp only [Act.put, lgA, lgB, lgC, lgD, lgE, lgF]
  refine wpAnyH_take (i := 1) (v := .string (bs [b0])) rfl (by kernel_rfl) (by kernel_rfl) (by kernel_rfl) (fun _ _ _ h => h) (Or.inl ⟨by rfl, ?hy1d5⟩) (by assumption) ?rest1d5
  case hy1d5 => intro w hSw; (try dsimp only at hSw); go_simp; (try (first | (with_reducible rfl) | rfl | exact e8q | exact e9q))
  try simp only [Act.put, lgA, lgB, lgC, lgD, lgE, lgF]
  refine wpAnyH_take (i := 2) (v := ?v2d5) rfl (by kernel_rfl) (by kernel_rfl) (by kernel_rfl) (fun _ _ _ h => h) (Or.inl ⟨by rfl, ?hy2d5⟩) (by assumption) ?rest2d5
  case hy2d5 => intro w hSw; (try dsimp only at hSw); go_simp; (try (first | (with_reducible rfl) | rfl | exact e8q | exact e9q))
  try simp only [Act.put, lgA, lgB, lgC, lgD, lgE, lgF]
  refine wpAnyH_take (i := 3) (v := ?v3d5) rfl (by kernel_rfl) (by kernel_rfl) (by kernel_rfl) (fun _ _ _ h => h) (Or.inl ⟨by rfl, ?hy3d5⟩) (by assumption) ?rest3d5
  case hy3d5 => intro w hSw; (try dsimp only at hSw); go_simp; (try (first | (with_reducible rfl) | rfl | exact e8q | exact e9q))
  try simp only [Act.put, lgA, lgB, lgC, lgD, lgE, lgF]
  refine wpAnyH_take (i := 4) (v := ?v4d5) rfl (by kernel_rfl) (by kernel_rfl) (by kernel_rfl) (fun _ _ _ h => h) (Or.inl ⟨by rfl, ?hy4d5⟩) (by assumption) ?rest4d5
  case hy4d5 => intro w hSw; (try dsimp only at hSw); go_simp; (try (first | (with_reducible rfl) | rfl | exact e8q | exact e9q))
  try simp only [Act.put, lgA, lgB, lgC, lgD, lgE, lgF]
  refine wpAnyH_take (i := 5) (v := ?v5d5) rfl (by kernel_rfl) (by kernel_rfl) (by kernel_rfl) (fun _ _ _ h => h) (Or.inl ⟨by rfl, ?hy5d5⟩) (by assumption) ?rest5d5
  case hy5d5 => intro w hSw; (try dsimp only at hSw); go_simp; (try (first | (with_reducible rfl) | rfl | exact e8q | exact e9q))
  try simp only [Act.put, lgA, lgB, lgC, lgD, lgE, lgF]
  refine wpAnyH_take (i := 6) (v := .string (bs [b1, b2])) rfl (by kernel_rfl) (by kernel_rfl) (by kernel_rfl) (fun _ _ _ h => h) (Or.inl ⟨by rfl, ?hy6d5⟩) (by assumption) ?rest6d5
  case hy6d5 => intro w hSw; (try dsimp only at hSw); go_simp; (try (first | (with_reducible rfl) | rfl | exact e8q | exact e9q))
  try simp only [Act.put, lgA, lgB, lgC, lgD, lgE, lgF]
  refine wpAnyH_take (i := 8) (v := ?v8d5) rfl (by kernel_rfl) (by kernel_rfl) (by kernel_rfl) (fun _ _ _ h => h) (Or.inl ⟨by rfl, ?hy8d5⟩) (by assumption) ?rest8d5
  case hy8d5 => intro w hSw; (try dsimp only at hSw); go_simp; (try (first | (with_reducible rfl) | rfl | exact e8q | exact e9q))
  try simp only [Act.put, lgA, lgB, lgC, lgD, lgE, lgF]
  refine wpAnyH_take (i := 9) (v := ?v9d5) rfl (by kernel_rfl) (by kernel_rfl) (by kernel_rfl) (fun _ _ _ h => h) (Or.inl ⟨by rfl, ?hy9d5⟩) (by assumption) ?rest9d5
  case hy9d5 => intro w hSw; (try dsimp only at hSw); go_simp; (try (first | (with_reducible rfl) | rfl | exact e8q | exact e9q))
  try simp only [Act.put, lgA, lgB, lgC, lgD, lgE, lgF]
  refine wpAnyH_take (i := 10) (v := ?v10d5) rfl (by kernel_rfl) (by kernel_rfl) (by kernel_rfl) (fun _ _ _ h => h) (Or.inl ⟨by rfl, ?hy10d5⟩) (by assumption) ?rest10d5
  case hy10d5 => intro w hSw; (try dsimp only at hSw); go_simp; (try (first | (with_reducible rfl) | rfl | exact e8q | exact e9q))
  try simp only [Act.put, lgA, lgB, lgC, lgD, lgE, lgF]
  refine wpAnyH_take (i := 11) (v := ?v11d5) rfl (by kernel_rfl) (by kernel_rfl) (by kernel_rfl) (fun _ _ _ h => h) (Or.inl ⟨by rfl, ?hy11d5⟩) (by assumption) ?rest11d5
  case hy11d5 => intro w hSw; (try dsimp only at hSw); go_simp; (try (first | (with_reducible rfl) | rfl | exact e8q | exact e9q))
  try simp only [Act.put, lgA, lgB, lgC, lgD, lgE, lgF]
  refine wpAnyH_take (i := 12) (v := .int .u8 (b4.toNat : Int)) rfl (by kernel_rfl) (by kernel_rfl) (by kernel_rfl) (fun _ _ _ h => h) (Or.inl ⟨by rfl, ?hy12d5⟩) (by assumption) ?rest12d5
  case hy12d5 => intro w hSw; (try dsimp only at hSw); go_simp; (try (first | (with_reducible rfl) | rfl | exact e8q | exact e9q))
  try simp only [Act.put, lgA, lgB, lgC, lgD, lgE, lgF]
  refine wpAnyH_take (i := 13) (v := .int .i64 (b4.toNat : Int)) rfl (by kernel_rfl) (by kernel_rfl) (by kernel_rfl) (fun _ _ _ h => h) (Or.inl ⟨by rfl, ?hy13d5⟩) (by assumption) ?rest13d5
  case hy13d5 => intro w hSw; (try dsimp only at hSw); go_simp; (try (first | (with_reducible rfl) | rfl | exact e8q | exact e9q))
  try simp only [Act.put, lgA, lgB, lgC, lgD, lgE, lgF]
  refine wpAnyH_take (i := 14) (v := .int .i64 ((b4.toNat : Int) - 48)) rfl (by kernel_rfl) (by kernel_rfl) (by kernel_rfl) (fun _ _ _ h => h) (Or.inl ⟨by rfl, ?hy14d5⟩) (by assumption) ?rest14d5
  case hy14d5 => intro w hSw; (try dsimp only at hSw); go_simp; (try (first | (with_reducible rfl) | rfl | exact e8q | exact e9q))
  try simp only [Act.put, lgA, lgB, lgC, lgD, lgE, lgF]
  refine wpAnyH_ready (rs := [7, 16]) (by kernel_rfl) (by simp) ?_
  refine AllReadyH.cons rfl (fun K hK => ?_) (AllReadyH.cons rfl (fun K hK => ?_) AllReadyH.nil)
  · skip
    go_simp
    refine (HV.out _).mono ?_
    rintro e wA ⟨u, rfl, oA, zA⟩
    obtain ⟨ub, un, uc, rfl⟩ := oI_form1 oA
    replace zA : Below w1.heap.size w1 wA := on (Below.refl _ _).drew zA
    have sA := zA.size
    refine hK.out _ _ ?_ (fun hHeld => ?_)
    · trivial
    clear hK K
    try simp only [Act.put, lgA, lgB, lgC, lgD, lgE, lgF]
    refine wpAnyH_take (i := 15) (v := ?v15a5) rfl (by kernel_rfl) (by kernel_rfl) (by kernel_rfl) (fun _ _ _ h => h) (Or.inl ⟨by rfl, ?hy15a5⟩) (by assumption) ?rest15a5
    case hy15a5 => intro w hSw; (try dsimp only at hSw); go_simp; (try (first | (with_reducible rfl) | rfl | exact e8q | exact e9q))
    try simp only [Act.put, lgA, lgB, lgC, lgD, lgE, lgF]
    refine wpAnyH_ready (rs := [16]) (by kernel_rfl) (by simp) ?_
    refine AllReadyH.cons rfl (fun K hK => ?_) AllReadyH.nil
    go_simp
    obtain ⟨wX, hX⟩ : ∃ W, W = wA.alloc (.cells #[.string (ByteArray.mk #[]), .slice none 0 0, .int .i64 0] 29) := ⟨_, rfl⟩
    have n_0 : wX.cell? ⟨wA.heap.size, 0, none⟩ = some (.string (ByteArray.mk #[])) := by rw [hX]; show (World.alloc wA _).cell? ⟨wA.heap.size, 0, none⟩ = _; exact box_cell (Below.refl _ _) rfl
    have n_1 : wX.cell? ⟨wA.heap.size, 1, none⟩ = some (.slice none 0 0) := by rw [hX]; show (World.alloc wA _).cell? ⟨wA.heap.size, 1, none⟩ = _; exact box_cell (Below.refl _ _) rfl
    have n_2 : wX.cell? ⟨wA.heap.size, 2, none⟩ = some (.int .i64 0) := by rw [hX]; show (World.alloc wA _).cell? ⟨wA.heap.size, 2, none⟩ = _; exact box_cell (Below.refl _ _) rfl
    have n_f0 : wX.frozen? ⟨wA.heap.size, 0, none⟩ = false := by rw [hX]; show (World.alloc wA _).frozen? ⟨wA.heap.size, 0, none⟩ = _; exact box_frozen (Below.refl _ _)
    have n_f1 : wX.frozen? ⟨wA.heap.size, 1, none⟩ = false := by rw [hX]; show (World.alloc wA _).frozen? ⟨wA.heap.size, 1, none⟩ = _; exact box_frozen (Below.refl _ _)
    have n_f2 : wX.frozen? ⟨wA.heap.size, 2, none⟩ = false := by rw [hX]; show (World.alloc wA _).frozen? ⟨wA.heap.size, 2, none⟩ = _; exact box_frozen (Below.refl _ _)
    have zX : Below wA.heap.size wA wX := by rw [hX]; exact (Below.refl _ _).alloc (Nat.le_refl _) _
    have zXq : wX.heap.size = wA.heap.size + 1 := by rw [hX]; simp
    rw [← hX]
    clear hX
    refine hK.out _ _ ?_ (fun hHeld => ?_)
    · trivial
    clear hK K
    try simp only [Act.put, lgA, lgB, lgC, lgD, lgE, lgF]
    have k_0 := ((on zA zX).cell (p := ⟨w.heap.size, 0, none⟩) (by simp only []; omega)).trans r_0
    have k_1 := ((on zA zX).cell (p := ⟨w.heap.size, 1, none⟩) (by simp only []; omega)).trans r_1
    have k_2 := ((on zA zX).cell (p := ⟨w.heap.size, 2, none⟩) (by simp only []; omega)).trans r_2
    have k_f0 := ((on zA zX).frozen (p := ⟨w.heap.size, 0, none⟩) (by simp only []; omega)).trans f_0
    have k_f1 := ((on zA zX).frozen (p := ⟨w.heap.size, 1, none⟩) (by simp only []; omega)).trans f_1
    have k_f2 := ((on zA zX).frozen (p := ⟨w.heap.size, 2, none⟩) (by simp only []; omega)).trans f_2
    have hbY := on (on hb1 zA) zX
    refine wpAnyH_ready (rs := [17]) (by kernel_rfl) (by simp) ?_
    refine AllReadyH.cons rfl (fun K hK => ?_) AllReadyH.nil
    go_simp
    obtain ⟨Wf, hWf⟩ : ∃ W, W = ((wX.setCell ⟨wA.heap.size, 0, none⟩ (.string (bs [b0]))).setCell ⟨wA.heap.size, 1, none⟩ (.slice ub un uc)).setCell ⟨wA.heap.size, 2, none⟩ (.int .i64 ((b4.toNat : Int) - 48)) := ⟨_, rfl⟩
    rw [← hWf]
    refine hK.out _ _ ?_ (fun hHeld => ?_)
    · trivial
    clear hK K
    try simp only [Act.put, lgA, lgB, lgC, lgD, lgE, lgF]
    refine wpAnyH_done (by kernel_rfl) ?_ _
    refine NoPanic.normal ?_
    have x_0 : Wf.cell? ⟨wA.heap.size, 0, none⟩ = some (.string (bs [b0])) := by rw [hWf]; simp [go_sem, n_0, n_1, n_2]
    have x_1 : Wf.cell? ⟨wA.heap.size, 1, none⟩ = some (.slice ub un uc) := by rw [hWf]; simp [go_sem, n_0, n_1, n_2]
    have x_2 : Wf.cell? ⟨wA.heap.size, 2, none⟩ = some (.int .i64 ((b4.toNat : Int) - 48)) := by rw [hWf]; simp [go_sem, n_0, n_1, n_2]
    replace k_0 : Wf.cell? ⟨w.heap.size, 0, none⟩ = some (.string (ByteArray.mk #[])) := by rw [hWf]; exact cell_setD (cell_setD (cell_setD k_0 (by simp only []; omega)) (by simp only []; omega)) (by simp only []; omega)
    replace k_1 : Wf.cell? ⟨w.heap.size, 1, none⟩ = some (.slice none 0 0) := by rw [hWf]; exact cell_setD (cell_setD (cell_setD k_1 (by simp only []; omega)) (by simp only []; omega)) (by simp only []; omega)
    replace k_2 : Wf.cell? ⟨w.heap.size, 2, none⟩ = some (.int .i64 0) := by rw [hWf]; exact cell_setD (cell_setD (cell_setD k_2 (by simp only []; omega)) (by simp only []; omega)) (by simp only []; omega)
    replace k_f0 : Wf.frozen? ⟨w.heap.size, 0, none⟩ = false := by rw [hWf]; simp [go_sem, k_f0]
    replace k_f1 : Wf.frozen? ⟨w.heap.size, 1, none⟩ = false := by rw [hWf]; simp [go_sem, k_f1]
    replace k_f2 : Wf.frozen? ⟨w.heap.size, 2, none⟩ = false := by rw [hWf]; simp [go_sem, k_f2]
    have sf : Wf.heap.size = wX.heap.size := by rw [hWf]; simp [World.setCell]
    have hbF : Below w.heap.size w Wf := by
      rw [hWf]
      repeat (refine Below.setCell ?_ (by simp only []; omega) _)
      exact hbY
    have oF : Own oI (w.heap.size + 1) Wf.heap.size Wf [.slice ub un uc] (vals [b1, b2]) := by
      have zF : Below wA.heap.size wA Wf := by
        rw [hWf]
        repeat (refine Below.setCell ?_ (by simp only []; omega) _)
        exact zX
      refine (oA.below zF (Nat.le_refl _)).mono ?_ (by omega)
      show w.heap.size + 1 ≤ w1.heap.size
      omega
    clear hWf oA n_0 n_1 n_2 n_f0 n_f1 n_f2
    have HOF := Lib.hid oF
    clear oF e8 e9 e8q e9q
    go_wp2_with fail
    refine (fmtDp_spec _ (bs [b0], vals [b1, b2], (b4.toNat : Int) - 48) _ (rDp_mk (by simp [bs_size]) (HOF.out.rd reads_I) (show I64 ((b4.toNat : Int) - 48) by unfold I64; omega)) (by simp [vals_len])).mono ?_
    rintro e w3 ⟨rfl, z3⟩
    have s3 := z3.size
    have hb3 := on hbF z3
    have o3 := HOF.out.below z3 (Nat.le_refl _)
    replace x_0 := bxc z3 x_0
    replace x_1 := bxc z3 x_1
    replace x_2 := bxc z3 x_2
    replace k_0 := bxc z3 k_0
    replace k_1 := bxc z3 k_1
    replace k_2 := bxc z3 k_2
    replace k_f0 := bxf z3 k_f0
    replace k_f1 := bxf z3 k_f1
    replace k_f2 := bxf z3 k_f2
    obtain ⟨F, hF⟩ : ∃ F, fmtDp (bs [b0], vals [b1, b2], (b4.toNat : Int) - 48) = F := ⟨_, rfl⟩
    simp only [hF] at HP ⊢
    clear hF
    have hI : I64 ((b4.toNat : Int) - 48) := by unfold I64; omega
    by_cases hq : F = [b0, b1, b2, b3, b4]
    · obtain rfl : P = some (bs [b0], vals [b1, b2], (b4.toNat : Int) - 48) := by rw [HP.out, if_pos hq]
      subst hq
      have hB : bs [b0, b1, b2, b3, b4] = ByteArray.mk #[b0, b1, b2, b3, b4] := rfl
      rw [hB]
      have HO3 := Lib.hid o3
      clear HP hB o3 HOF HV
      go_wp2_with fail
      refine bodyPost_ret (v := .tuple #[.agg #[.string (bs [b0]), .slice ub un uc, .int .i64 ((b4.toNat : Int) - 48)], .bool true]) (by simp [results, Tryz.results22, go_sem, k_0, k_1, k_2, k_f0, k_f1, k_f2]) rfl ⟨[.string (bs [b0]), .slice ub un uc, .int .i64 ((b4.toNat : Int) - 48)], rfl, ?_, ?_⟩
      · refine Own.mono (lo := w.heap.size + 1) (hi := w3.heap.size) ?_ (by omega) (by simp [World.setCell])
        repeat (refine Own.setOut ?_ rfl (by simp only []; omega))
        exact oDp_mk (x := (bs [b0], vals [b1, b2], (b4.toNat : Int) - 48)) (by simp [bs_size]) HO3.out hI (by omega) (by omega)
      · repeat (refine Below.setCell ?_ (by simp only []; omega) _)
        exact hb3
    · obtain rfl : P = none := by rw [HP.out, if_neg hq]
      have hne : (F == [b0, b1, b2, b3, b4]) = false := by rw [beq_eq_false_iff_ne]; exact hq
      clear HP hq o3 HOF HV
      go_wp2_with fail
      refine bodyPost_ret (v := .tuple #[.agg #[.string (ByteArray.mk #[]), .slice none 0 0, .int .i64 0], .bool false]) (by simp [results, Tryz.results22, go_sem, k_0, k_1, k_2, k_f0, k_f1, k_f2]) rfl ⟨[.string (ByteArray.mk #[]), .slice none 0 0, .int .i64 0], rfl, ?_, ?_⟩
      · refine Own.mono (lo := w.heap.size + 1) (hi := w3.heap.size) ?_ (by omega) (by simp [World.setCell])
        repeat (refine Own.setOut ?_ rfl (by simp only []; omega))
        exact oDp_mk (x := zeroDp) (by decide) (own_nil_S (B := w.heap.size + 1)) (show I64 0 by unfold I64; omega) (by omega) (by omega)
      · repeat (refine Below.setCell ?_ (by simp only []; omega) _)
        exact hb3
  · skip
    go_simp
    obtain ⟨wX, hX⟩ : ∃ W, W = (w1.alloc (.cells #[.string (ByteArray.mk #[]), .slice none 0 0, .int .i64 0] 29)).drew := ⟨_, rfl⟩
    have n_0 : wX.cell? ⟨w.heap.size + 1, 0, none⟩ = some (.string (ByteArray.mk #[])) := by rw [hX, ← s1]; show (World.alloc w1 _).cell? ⟨w1.heap.size, 0, none⟩ = _; exact box_cell (Below.refl _ _) rfl
    have n_1 : wX.cell? ⟨w.heap.size + 1, 1, none⟩ = some (.slice none 0 0) := by rw [hX, ← s1]; show (World.alloc w1 _).cell? ⟨w1.heap.size, 1, none⟩ = _; exact box_cell (Below.refl _ _) rfl
    have n_2 : wX.cell? ⟨w.heap.size + 1, 2, none⟩ = some (.int .i64 0) := by rw [hX, ← s1]; show (World.alloc w1 _).cell? ⟨w1.heap.size, 2, none⟩ = _; exact box_cell (Below.refl _ _) rfl
    have n_f0 : wX.frozen? ⟨w.heap.size + 1, 0, none⟩ = false := by rw [hX, ← s1]; show (World.alloc w1 _).frozen? ⟨w1.heap.size, 0, none⟩ = _; exact box_frozen (Below.refl _ _)
    have n_f1 : wX.frozen? ⟨w.heap.size + 1, 1, none⟩ = false := by rw [hX, ← s1]; show (World.alloc w1 _).frozen? ⟨w1.heap.size, 1, none⟩ = _; exact box_frozen (Below.refl _ _)
    have n_f2 : wX.frozen? ⟨w.heap.size + 1, 2, none⟩ = false := by rw [hX, ← s1]; show (World.alloc w1 _).frozen? ⟨w1.heap.size, 2, none⟩ = _; exact box_frozen (Below.refl _ _)
    have zX : Below w1.heap.size w1 wX := by rw [hX]; exact ((Below.refl _ _).alloc (Nat.le_refl _) _).drew
    have zXq : wX.heap.size = w.heap.size + 1 + 1 := by rw [hX]; simp [s1]
    rw [← hX]
    clear hX
    refine hK.out _ _ ?_ (fun hHeld => ?_)
    · trivial
    clear hK K
    try simp only [Act.put, lgA, lgB, lgC, lgD, lgE, lgF]
    refine wpAnyH_ready (rs := [7]) (by kernel_rfl) (by simp) ?_
    refine AllReadyH.cons rfl (fun K hK => ?_) AllReadyH.nil
    go_simp
    refine (HV.out _).mono ?_
    rintro e wA ⟨u, rfl, oA, zA⟩
    obtain ⟨ub, un, uc, rfl⟩ := oI_form1 oA
    skip
    have sA := zA.size
    refine hK.out _ _ ?_ (fun hHeld => ?_)
    · trivial
    clear hK K
    try simp only [Act.put, lgA, lgB, lgC, lgD, lgE, lgF]
    refine wpAnyH_take (i := 15) (v := ?v15b5) rfl (by kernel_rfl) (by kernel_rfl) (by kernel_rfl) (fun _ _ _ h => h) (Or.inl ⟨by rfl, ?hy15b5⟩) (by assumption) ?rest15b5
    case hy15b5 => intro w hSw; (try dsimp only at hSw); go_simp; (try (first | (with_reducible rfl) | rfl | exact e8q | exact e9q))
    try simp only [Act.put, lgA, lgB, lgC, lgD, lgE, lgF]
    replace n_0 := bxc zA n_0
    replace n_1 := bxc zA n_1
    replace n_2 := bxc zA n_2
    replace n_f0 := bxf zA n_f0
    replace n_f1 := bxf zA n_f1
    replace n_f2 := bxf zA n_f2
    have zB : Below w1.heap.size w1 wX := zX
    have k_0 := ((on zB zA).cell (p := ⟨w.heap.size, 0, none⟩) (by simp only []; omega)).trans r_0
    have k_1 := ((on zB zA).cell (p := ⟨w.heap.size, 1, none⟩) (by simp only []; omega)).trans r_1
    have k_2 := ((on zB zA).cell (p := ⟨w.heap.size, 2, none⟩) (by simp only []; omega)).trans r_2
    have k_f0 := ((on zB zA).frozen (p := ⟨w.heap.size, 0, none⟩) (by simp only []; omega)).trans f_0
    have k_f1 := ((on zB zA).frozen (p := ⟨w.heap.size, 1, none⟩) (by simp only []; omega)).trans f_1
    have k_f2 := ((on zB zA).frozen (p := ⟨w.heap.size, 2, none⟩) (by simp only []; omega)).trans f_2
    have hbY := on (on hb1 zB) zA
    refine wpAnyH_ready (rs := [17]) (by kernel_rfl) (by simp) ?_
    refine AllReadyH.cons rfl (fun K hK => ?_) AllReadyH.nil
    go_simp
    obtain ⟨Wf, hWf⟩ : ∃ W, W = ((wA.setCell ⟨w.heap.size + 1, 0, none⟩ (.string (bs [b0]))).setCell ⟨w.heap.size + 1, 1, none⟩ (.slice ub un uc)).setCell ⟨w.heap.size + 1, 2, none⟩ (.int .i64 ((b4.toNat : Int) - 48)) := ⟨_, rfl⟩
    rw [← hWf]
    refine hK.out _ _ ?_ (fun hHeld => ?_)
    · trivial
    clear hK K
    try simp only [Act.put, lgA, lgB, lgC, lgD, lgE, lgF]
    refine wpAnyH_done (by kernel_rfl) ?_ _
    refine NoPanic.normal ?_
    have x_0 : Wf.cell? ⟨w.heap.size + 1, 0, none⟩ = some (.string (bs [b0])) := by rw [hWf]; simp [go_sem, n_0, n_1, n_2]
    have x_1 : Wf.cell? ⟨w.heap.size + 1, 1, none⟩ = some (.slice ub un uc) := by rw [hWf]; simp [go_sem, n_0, n_1, n_2]
    have x_2 : Wf.cell? ⟨w.heap.size + 1, 2, none⟩ = some (.int .i64 ((b4.toNat : Int) - 48)) := by rw [hWf]; simp [go_sem, n_0, n_1, n_2]
    replace k_0 : Wf.cell? ⟨w.heap.size, 0, none⟩ = some (.string (ByteArray.mk #[])) := by rw [hWf]; exact cell_setD (cell_setD (cell_setD k_0 (by simp only []; omega)) (by simp only []; omega)) (by simp only []; omega)
    replace k_1 : Wf.cell? ⟨w.heap.size, 1, none⟩ = some (.slice none 0 0) := by rw [hWf]; exact cell_setD (cell_setD (cell_setD k_1 (by simp only []; omega)) (by simp only []; omega)) (by simp only []; omega)
    replace k_2 : Wf.cell? ⟨w.heap.size, 2, none⟩ = some (.int .i64 0) := by rw [hWf]; exact cell_setD (cell_setD (cell_setD k_2 (by simp only []; omega)) (by simp only []; omega)) (by simp only []; omega)
    replace k_f0 : Wf.frozen? ⟨w.heap.size, 0, none⟩ = false := by rw [hWf]; simp [go_sem, k_f0]
    replace k_f1 : Wf.frozen? ⟨w.heap.size, 1, none⟩ = false := by rw [hWf]; simp [go_sem, k_f1]
    replace k_f2 : Wf.frozen? ⟨w.heap.size, 2, none⟩ = false := by rw [hWf]; simp [go_sem, k_f2]
    have sf : Wf.heap.size = wA.heap.size := by rw [hWf]; simp [World.setCell]
    have hbF : Below w.heap.size w Wf := by
      rw [hWf]
      repeat (refine Below.setCell ?_ (by simp only []; omega) _)
      exact hbY
    have oF : Own oI (w.heap.size + 1) Wf.heap.size Wf [.slice ub un uc] (vals [b1, b2]) := by
      rw [hWf]
      refine Own.mono (lo := wX.heap.size) (hi := wA.heap.size) ?_ (by omega) (by simp [World.setCell])
      repeat (refine Own.setOut ?_ rfl (by simp only []; omega))
      exact oA
    clear hWf oA n_0 n_1 n_2 n_f0 n_f1 n_f2
    have HOF := Lib.hid oF
    clear oF e8 e9 e8q e9q
    go_wp2_with fail
    refine (fmtDp_spec _ (bs [b0], vals [b1, b2], (b4.toNat : Int) - 48) _ (rDp_mk (by simp [bs_size]) (HOF.out.rd reads_I) (show I64 ((b4.toNat : Int) - 48) by unfold I64; omega)) (by simp [vals_len])).mono ?_
    rintro e w3 ⟨rfl, z3⟩
    have s3 := z3.size
    have hb3 := on hbF z3
    have o3 := HOF.out.below z3 (Nat.le_refl _)
    replace x_0 := bxc z3 x_0
    replace x_1 := bxc z3 x_1
    replace x_2 := bxc z3 x_2
    replace k_0 := bxc z3 k_0
    replace k_1 := bxc z3 k_1
    replace k_2 := bxc z3 k_2
    replace k_f0 := bxf z3 k_f0
    replace k_f1 := bxf z3 k_f1
    replace k_f2 := bxf z3 k_f2
    obtain ⟨F, hF⟩ : ∃ F, fmtDp (bs [b0], vals [b1, b2], (b4.toNat : Int) - 48) = F := ⟨_, rfl⟩
    simp only [hF] at HP ⊢
    clear hF
    have hI : I64 ((b4.toNat : Int) - 48) := by unfold I64; omega
    by_cases hq : F = [b0, b1, b2, b3, b4]
    · obtain rfl : P = some (bs [b0], vals [b1, b2], (b4.toNat : Int) - 48) := by rw [HP.out, if_pos hq]
      subst hq
      have hB : bs [b0, b1, b2, b3, b4] = ByteArray.mk #[b0, b1, b2, b3, b4] := rfl
      rw [hB]
      have HO3 := Lib.hid o3
      clear HP hB o3 HOF HV
      go_wp2_with fail
      refine bodyPost_ret (v := .tuple #[.agg #[.string (bs [b0]), .slice ub un uc, .int .i64 ((b4.toNat : Int) - 48)], .bool true]) (by simp [results, Tryz.results22, go_sem, k_0, k_1, k_2, k_f0, k_f1, k_f2]) rfl ⟨[.string (bs [b0]), .slice ub un uc, .int .i64 ((b4.toNat : Int) - 48)], rfl, ?_, ?_⟩
      · refine Own.mono (lo := w.heap.size + 1) (hi := w3.heap.size) ?_ (by omega) (by simp [World.setCell])
        repeat (refine Own.setOut ?_ rfl (by simp only []; omega))
        exact oDp_mk (x := (bs [b0], vals [b1, b2], (b4.toNat : Int) - 48)) (by simp [bs_size]) HO3.out hI (by omega) (by omega)
      · repeat (refine Below.setCell ?_ (by simp only []; omega) _)
        exact hb3
    · obtain rfl : P = none := by rw [HP.out, if_neg hq]
      have hne : (F == [b0, b1, b2, b3, b4]) = false := by rw [beq_eq_false_iff_ne]; exact hq
      clear HP hq o3 HOF HV
      go_wp2_with fail
      refine bodyPost_ret (v := .tuple #[.agg #[.string (ByteArray.mk #[]), .slice none 0 0, .int .i64 0], .bool false]) (by simp [results, Tryz.results22, go_sem, k_0, k_1, k_2, k_f0, k_f1, k_f2]) rfl ⟨[.string (ByteArray.mk #[]), .slice none 0 0, .int .i64 0], rfl, ?_, ?_⟩
      · refine Own.mono (lo := w.heap.size + 1) (hi := w3.heap.size) ?_ (by omega) (by simp [World.setCell])
        repeat (refine Own.setOut ?_ rfl (by simp only []; omega))
        exact oDp_mk (x := zeroDp) (by decide) (own_nil_S (B := w.heap.size + 1)) (show I64 0 by unfold I64; omega) (by omega) (by omega)
      · repeat (refine Below.setCell ?_ (by simp only []; omega) _)
        exact hb3

end Go.Proofs.YtpgfkjcekhifiaaGreatDoor
