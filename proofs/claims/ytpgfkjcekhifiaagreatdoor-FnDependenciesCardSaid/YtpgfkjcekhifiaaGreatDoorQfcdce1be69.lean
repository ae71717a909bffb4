/- Texts joined for one claim: Draw20. -/
import Derived.Test.YtpgfkjcekhifiaaGreatDoorQ66776059ca
import Derived.Test.YtpgfkjcekhifiaaGreatDoorQ82ec8cd535
import Derived.Test.YtpgfkjcekhifiaaGreatDoorQc913c7a46f
import Derived.Test.YtpgfkjcekhifiaaGreatDoorQ172172a568
import Derived.Deep.RegionHeld3

namespace Go.Proofs.YtpgfkjcekhifiaaGreatDoor

open Go.RowKit

set_option linter.unusedVariables false

set_option linter.unusedSimpArgs false

set_option synthInstance.maxSize 2000

set_option synthInstance.maxHeartbeats 400000

theorem own_byte {lo hi : Nat} {W W1 : World} {v : Value} {ys : List UInt8} {r : UInt8} {V : Int} (hr : (r.toNat : Int) = V) (ty : TypeId) (h : Own (O.slice 5 O.u8) lo hi W [v] ys) (hh2 : hi ≤ W.heap.size) (hlo : lo ≤ hi) (hn : ys.length ≤ 1000000) (hW1 : W1 = W.alloc (.cells #[.int .u8 V] 5)) :
    ∃ a n c w', (Builtin.append_ #[22, 22] ty #[v, .slice (some ⟨W.heap.size, 0, none⟩) 1 1]).run Tryz.prog W1 = .ok (.slice a n c) w' ∧ Own (O.slice 5 O.u8) lo w'.heap.size w' [.slice a n c] (ys ++ [r]) ∧ Below lo W w' ∧ W.heap.size < w'.heap.size := by
  subst hr
  obtain ⟨fu, a2, a4, a9⟩ := h
  obtain ⟨a, n, c, w', fu', hrun, c1, c2, c3, c4, ⟨c5, c6, c7⟩, c8⟩ := run_app_fp (W := W) (W1 := W1) Tryz.underlying22 infoU8 rfl (by decide) (by decide) rfl ty v ys [.int .u8 (r.toNat : Int)] r fu [] a2 a4 (o' := O.u8) ⟨rfl, rfl⟩ (by simp) (fun k hk => by cases hk) (by intro z hz; simp at hz; subst hz; rfl) (by omega) hW1
  refine ⟨a, n, c, w', hrun, ⟨fu', c1, c2, fun k hk => ?_⟩, ⟨c5, c6, c7, by omega, fun k hk => c8 k (by omega) (fun hk2 => by have := a9 k hk2; omega)⟩, c4⟩
  rcases c3 k hk with h9 | h9 | h9
  · have := a9 k h9; omega
  · cases h9
  · omega

theorem own_bytes_back {lo hi : Nat} {w : World} {a : Option Addr} {n c : Nat} {l : List UInt8} (h : Own (O.slice 5 O.u8) lo hi w [.slice a n c] l) : (convert 22 9 (.slice a n c)).run Tryz.prog w = .ok (.string (bs l)) w := by
  obtain ⟨fp, h1, h2, h3⟩ := h
  exact bytes_back (lo := lo) (S := lo) (hi := hi) ⟨fp, h1, h2, fun k hk => by have := h3 k hk; omega⟩

theorem u8_of {V : Int} (h0 : 0 ≤ V) (h1 : V ≤ 255) : ∃ r : UInt8, (r.toNat : Int) = V := by
  refine ⟨UInt8.ofNat V.toNat, ?_⟩
  rw [UInt8.toNat_ofNat']
  omega

set_option maxRecDepth 100000 in
set_option maxHeartbeats 4000000 in
theorem l1Text_any (w : World) (cb : Nat) (ba : Option Addr) (bn bc : Nat) (HC : Cur w cb ba bn bc) (hcb : cb < w.heap.size) :
    Calls Tryz.prog 88 #[.pointer (some ⟨cb, 0, none⟩), .int .i64 3] w fun e w' => ∃ s : ByteArray, e = .returned (.string s) ∧ s.size ≤ 3 ∧ Cur w' cb ba bn bc ∧ Turn cb (cb + 1) w w' := by
  have hba : Below w.heap.size w (w.alloc (.cells #[] 5)) := (Below.refl _ _).alloc (Nat.le_refl _) _
  have HO0 : Hid (Own (O.slice 5 O.u8) w.heap.size (w.alloc (.cells #[] 5)).heap.size (w.alloc (.cells #[] 5)) [.slice (some ⟨w.heap.size, 0, none⟩) 0 0] []) := Lib.hid ((own_empty_S (Nat.le_refl w.heap.size)).mono (Nat.le_refl _) (by simp))
  have HT0 : Hid (Turn cb (cb + 1) w (w.alloc (.cells #[] 5))) := Lib.hid (turn_below hba (Nat.le_refl _))
  have HB0 := Lib.hid (l1Below_any (w.alloc (.cells #[] 5)) cb ba bn bc 4 (by omega) (HC.below' hba hcb))
  clear HC hba
  go_enter Tryz.func88, Tryz.ntmps88
  go_wp2_with fail
  refine HB0.out.mono ?_
  rintro e w1 ⟨st, rfl, hs0, hs1, hs2, hc1, hkk⟩
  have HO1 := Lib.hid ((HO0.out.kept hkk (.inr (by omega))).mono (Nat.le_refl _) (Nat.le_of_eq hkk.size.symm))
  have HT1 := Lib.hid (HT0.out.trans hkk.turn)
  have HB1 := Lib.hid (l1Below_any w1 cb ba bn bc 4 (by omega) hc1)
  clear HO0 HT0 HB0 hkk hc1 hs0 hs1 hs2
  go_wp2_with fail
  refine HB1.out.mono ?_
  rintro e w2 ⟨k, rfl, hk0, hk1, hk2, hc2, hkk⟩
  obtain ⟨q, rfl⟩ := Int.eq_ofNat_of_zero_le hk0
  have hq : q ≤ 3 := by have := hk1 (by omega); omega
  have HO2 := Lib.hid ((HO1.out.kept hkk (.inr (by omega))).mono (Nat.le_refl _) (Nat.le_of_eq hkk.size.symm))
  have HT2 := Lib.hid (HT1.out.trans hkk.turn)
  have HC2 := Lib.hid hc2
  clear HO1 HT1 HB1 hkk hc2 hk0 hk1 hk2
  go_wp2_with fail
  go_loopw [5, 7] (fun v i wr => ∃ (j n c : Nat) (b : Option Addr) (l : List UInt8), j ≤ 3 ∧ i = .int .i64 (j : Int) ∧ v = .slice b n c ∧ Own (O.slice 5 O.u8) w.heap.size wr.heap.size wr [.slice b n c] l ∧ l.length + j ≤ 3 ∧ Cur wr cb ba bn bc ∧ Turn cb (cb + 1) w wr) (fun _ i _ => (intOf i).toNat)
  case atStart => exact ⟨q, 0, 0, _, [], hq, rfl, rfl, HO2.out, by simpa using hq, HC2.out, HT2.out⟩
  case round =>
    clear HO2 HT2 HC2 hq
    obtain ⟨j, n, c, b, l, hj, rfl, rfl, ho, hdl, hcur, ht⟩ := hrel
    have hts := ht.size
    obtain ⟨wo, rfl⟩ : ∃ W, W = wr := ⟨_, rfl⟩
    by_cases hlt : 0 < j
    · have hji : (0 : Int) < (j : Int) := by omega
      have HDP := Lib.hid (l1Byte_any wo cb ba bn bc hcur)
      have HOW := Lib.hid ho
      have HTT := Lib.hid ht
      clear hcur ho ht
      go_wp2_with fail
      refine HDP.out.mono ?_
      rintro e w3 ⟨x, rfl, hx0, hx1, hc3, hk3⟩
      have o3 := HOW.out.kept hk3 (.inr (by omega))
      have t3 := HTT.out.trans hk3.turn
      have s3 := Nat.le_of_eq hk3.size
      have s3' := Nat.le_of_eq hk3.size.symm
      have HC3 := Lib.hid hc3
      clear HOW HTT HDP hk3 hc3
      have hcase : ∃ V : Int, (0 ≤ V ∧ V ≤ 255) ∧ ((st = 1 ∧ V = x % 2) ∨ (st = 2 ∧ V = 97 + x % 4) ∨ (st ≠ 1 ∧ st ≠ 2 ∧ V = x)) := by
        by_cases h1 : st = 1
        · exact ⟨x % 2, by omega, .inl ⟨h1, rfl⟩⟩
        · by_cases h2 : st = 2
          · exact ⟨97 + x % 4, by omega, .inr (.inl ⟨h2, rfl⟩)⟩
          · exact ⟨x, ⟨hx0, hx1⟩, .inr (.inr ⟨h1, h2, rfl⟩)⟩
      obtain ⟨V, ⟨hV0, hV1⟩, hV⟩ := hcase
      obtain ⟨r, hr⟩ := u8_of hV0 hV1
      obtain ⟨na, nn, nc, wn, hrn, on_, hbn, hzn⟩ := own_byte hr 22 o3 (by omega) hts (by omega) rfl
      have HCN := Lib.hid (HC3.out.below' hbn hcb)
      have TN := Lib.hid (turn_on' t3 hbn)
      have ON := Lib.hid on_
      clear o3 t3 on_ hbn HC3 hr
      rcases hV with ⟨rfl, rfl⟩ | ⟨rfl, rfl⟩ | ⟨h1, h2, rfl⟩
      · go_wp2_with ((at_builtin; refine wpList_app_run hrn rfl rfl rfl rfl rfl ?_))
        go_roundw
        case rel => exact ⟨j - 1, nn, nc, na, l ++ [r], by omega, by go_num, rfl, ON.out, by rw [List.length_append]; simp; omega, HCN.out, TN.out⟩
        case measure => simp [intOf]; omega
      · go_wp2_with ((at_builtin; refine wpList_app_run hrn rfl rfl rfl rfl rfl ?_))
        go_roundw
        case rel => exact ⟨j - 1, nn, nc, na, l ++ [r], by omega, by go_num, rfl, ON.out, by rw [List.length_append]; simp; omega, HCN.out, TN.out⟩
        case measure => simp [intOf]; omega
      · go_wp2_with ((at_builtin; refine wpList_app_run hrn rfl rfl rfl rfl rfl ?_))
        go_roundw
        case rel => exact ⟨j - 1, nn, nc, na, l ++ [r], by omega, by go_num, rfl, ON.out, by rw [List.length_append]; simp; omega, HCN.out, TN.out⟩
        case measure => simp [intOf]; omega
    · have hji : ¬ ((0 : Int) < (j : Int)) := by omega
      have HTT := Lib.hid ht
      have HCC := Lib.hid hcur
      have hcv := own_bytes_back ho
      clear hcur ht ho
      go_wp2_with fail
      go_ret
      exact ⟨bs l, rfl, by rw [bs_size]; omega, HCC.out, HTT.out⟩

theorem byte_lit {W : World} {r : UInt8} {V : Int} (hr : (r.toNat : Int) = V) : Own (O.slice 5 O.u8) W.heap.size (W.heap.size + 1) (W.alloc (.cells #[.int .u8 V] 5)) [.slice (some ⟨W.heap.size, 0, none⟩) 1 1] [r] := by
  subst hr
  refine ⟨[W.heap.size], ⟨.slice (some ⟨W.heap.size, 0, none⟩) 1 1, [[.int .u8 (r.toNat : Int)]], [[]], rfl, by simp [bl, Value.ownBlock], ⟨by simp; rfl, .inr ⟨W.heap.size, 1, #[.int .u8 (r.toNat : Int)], rfl, Nat.zero_le _, heap_alloc_new W _, Nat.le_refl _, by unfold maxLen; omega, rfl, ?_⟩⟩, ⟨⟨rfl, rfl⟩, trivial⟩⟩, by simp, fun k hk => ?_⟩
  · rfl
  · simp at hk; omega

theorem ext_sizeD (s : ByteArray) (i j : Nat) : (s.extract i j).size ≤ s.size := by
  rw [ByteArray.size_extract]; omega

set_option maxRecDepth 100000 in
set_option maxHeartbeats 4000000 in
theorem l1Spoil_any (w : World) (cb : Nat) (ba : Option Addr) (bn bc : Nat) (HC : Cur w cb ba bn bc) (hcb : cb < w.heap.size) (s : ByteArray) (hs : s.size ≤ 1000) :
    Calls Tryz.prog 56 #[.pointer (some ⟨cb, 0, none⟩), .string s] w fun e w' => ∃ s' : ByteArray, e = .returned (.string s') ∧ s'.size ≤ 5000 ∧ Cur w' cb ba bn bc ∧ Turn cb (cb + 1) w w' := by
  by_cases h0 : s.size = 0
  · have hi0 : (s.size : Int) = 0 := by omega
    have HT := Lib.hid (l1Text_any w cb ba bn bc HC hcb)
    clear HC
    go_enter Tryz.func56, Tryz.ntmps56
    go_wp2_with fail
    refine HT.out.mono ?_
    rintro e w1 ⟨t, rfl, ht, hc, hk⟩
    go_wp2_with fail
    go_ret
    exact ⟨t, rfl, by omega, hc, hk⟩
  · have HB := Lib.hid (l1Below_any w cb ba bn bc (s.size : Int) (by omega) HC)
    have hi0 : ¬ (s.size : Int) = 0 := by omega
    clear HC
    go_enter Tryz.func56, Tryz.ntmps56
    go_wp2_with fail
    refine HB.out.mono ?_
    rintro e w1 ⟨k0, rfl, hk0, hk1, hk2, hc1, hkk1⟩
    obtain ⟨k, rfl⟩ := Int.eq_ofNat_of_zero_le hk0
    have hk : k < s.size := by have := hk1 (by omega); omega
    have hki : (k : Int) ≤ (s.size : Int) := by omega
    have hki2 : (k : Int) < (s.size : Int) := by omega
    have HB2 := Lib.hid (l1Below_any w1 cb ba bn bc 4 (by omega) hc1)
    have HT1 := Lib.hid hkk1.turn
    have s1 := Nat.le_of_eq hkk1.size.symm
    clear hc1 hkk1 hk0 hk1 hk2 HB h0
    go_wp2_with fail
    refine HB2.out.mono ?_
    rintro e w2 ⟨u, rfl, hu0, hu1, hu2, hc2, hkk2⟩
    have hu : u = 0 ∨ u = 1 ∨ u = 2 ∨ u = 3 := by omega
    have HT2 := Lib.hid (HT1.out.trans hkk2.turn)
    have s2 := Nat.le_of_eq hkk2.size.symm
    have HC2 := Lib.hid hc2
    clear hu0 hu1 hu2 hc2 hkk2 HB2 HT1
    have e1 := ext_sizeD s 0 k
    have e2 := ext_sizeD s (k + 1) s.size
    have e3 := ext_sizeD s k s.size
    have hdr : Below w2.heap.size w2 w2.drew := (Below.refl _ _).drew
    have hkw : IntKind.i64.wrap ((k : Int) + 1) = (k : Int) + 1 := IntWalk.i64_in _ (by omega)
    have hkw0 : 0 ≤ (k : Int) + 1 := by omega
    have hkw1 : (k : Int) + 1 ≤ (s.size : Int) := by omega
    rcases hu with rfl | rfl | rfl | rfl
    · go_wp2_with fail
      go_region
      have HC3 := HC2.out.below' hdr (show cb < w2.heap.size by omega)
      have HT3 := HT2.out.trans (turn_below hdr (Nat.le_refl _))
      clear hdr
      go_wp2_with fail
      go_ret
      exact ⟨_, rfl, by rw [ByteArray.size_append]; omega, HC3, HT3⟩
    · go_wp2_with fail
      refine wp_region_noPanic ?_
      refine wp_region_held_drew (S := (fun W => True)) (by kernel_rfl) ?hS1 (fun hHeld => ?_)
      case hS1 => trivial
      refine wpAnyH_take (i := 0) (v := ?v0_2) rfl (by kernel_rfl) (by kernel_rfl) (by kernel_rfl) (fun _ _ _ h => h) (Or.inl ⟨by rfl, ?hy0_2⟩) (by assumption) ?rest0_2
      case hy0_2 => intro w hSw; (try dsimp only at hSw); go_simp; (try with_reducible rfl)
      try simp only [Act.put, lgA, lgB, lgC, lgD, lgE, lgF]
      refine wpAnyH_take (i := 1) (v := ?v1_3) rfl (by kernel_rfl) (by kernel_rfl) (by kernel_rfl) (fun _ _ _ h => h) (Or.inl ⟨by rfl, ?hy1_3⟩) (by assumption) ?rest1_3
      case hy1_3 => intro w hSw; (try dsimp only at hSw); go_simp; (try with_reducible rfl)
      try simp only [Act.put, lgA, lgB, lgC, lgD, lgE, lgF]
      refine wpAnyH_take (i := 2) (v := ?v2_4) rfl (by kernel_rfl) (by kernel_rfl) (by kernel_rfl) (fun _ _ _ h => h) (Or.inl ⟨by rfl, ?hy2_4⟩) (by assumption) ?rest2_4
      case hy2_4 => intro w hSw; (try dsimp only at hSw); go_simp; (try with_reducible rfl)
      try simp only [Act.put, lgA, lgB, lgC, lgD, lgE, lgF]
      refine wpAnyH_take (i := 3) (v := ?v3_5) rfl (by kernel_rfl) (by kernel_rfl) (by kernel_rfl) (fun _ _ _ h => h) (Or.inl ⟨by rfl, ?hy3_5⟩) (by assumption) ?rest3_5
      case hy3_5 => intro w hSw; (try dsimp only at hSw); go_simp; (try with_reducible rfl)
      try simp only [Act.put, lgA, lgB, lgC, lgD, lgE, lgF]
      refine wpAnyH_take (i := 9) (v := ?v9_6) rfl (by kernel_rfl) (by kernel_rfl) (by kernel_rfl) (fun _ _ _ h => h) (Or.inl ⟨by rfl, ?hy9_6⟩) (by assumption) ?rest9_6
      case hy9_6 => intro w hSw; (try dsimp only at hSw); go_simp; (try with_reducible rfl)
      try simp only [Act.put, lgA, lgB, lgC, lgD, lgE, lgF]
      refine wpAnyH_take (i := 10) (v := ?v10_7) rfl (by kernel_rfl) (by kernel_rfl) (by kernel_rfl) (fun _ _ _ h => h) (Or.inl ⟨by rfl, ?hy10_7⟩) (by assumption) ?rest10_7
      case hy10_7 => intro w hSw; (try dsimp only at hSw); go_simp; (try with_reducible rfl)
      try simp only [Act.put, lgA, lgB, lgC, lgD, lgE, lgF]
      refine wpAnyH_take (i := 11) (v := ?v11_8) rfl (by kernel_rfl) (by kernel_rfl) (by kernel_rfl) (fun _ _ _ h => h) (Or.inl ⟨by rfl, ?hy11_8⟩) (by assumption) ?rest11_8
      case hy11_8 => intro w hSw; (try dsimp only at hSw); go_simp; (try with_reducible rfl)
      try simp only [Act.put, lgA, lgB, lgC, lgD, lgE, lgF]
      refine wpAnyH_ready (rs := [4]) (by kernel_rfl) (by simp) ?_
      refine AllReadyH.cons rfl (fun K9 hK9 => ?_) AllReadyH.nil
      go_simp
      refine (l1Byte_any _ cb ba bn bc (HC2.out.below' hdr (show cb < w2.heap.size by omega))).mono ?_
      rintro e w3 ⟨x, rfl, hx0, hx1, hc3, hk3⟩
      have HC3 := Lib.hid hc3
      have HT3 := Lib.hid ((HT2.out.trans (turn_below hdr (Nat.le_refl _))).trans hk3.turn)
      have s3 : w2.heap.size ≤ w3.heap.size := Nat.le_of_eq hk3.size.symm
      have hu8 : IntKind.u8.wrap x = x := IntWalk.u8_in x ⟨hx0, hx1⟩
      obtain ⟨r, hr⟩ := u8_of hx0 hx1
      clear hc3 hk3 HC2 HT2 hdr
      refine hK9.out _ _ trivial (fun hHeld => ?_)
      clear hK9 K9
      try simp only [Act.put, lgA, lgB, lgC, lgD, lgE, lgF]
      refine wpAnyH_take (i := 5) (v := ?v5_9) rfl (by kernel_rfl) (by kernel_rfl) (by kernel_rfl) (fun _ _ _ h => h) (Or.inl ⟨by rfl, ?hy5_9⟩) (by assumption) ?rest5_9
      case hy5_9 => intro w hSw; (try dsimp only at hSw); go_simp; (try with_reducible rfl)
      try simp only [Act.put, lgA, lgB, lgC, lgD, lgE, lgF]
      refine wpAnyH_ready (rs := [6]) (by kernel_rfl) (by simp) ?_
      refine AllReadyH.cons rfl (fun K9 hK9 => ?_) AllReadyH.nil
      go_simp
      have hcv := own_bytes_back (byte_lit (W := w3) hr)
      have z4 : Below w3.heap.size w3 (w3.alloc (.cells #[.int .u8 x] 5)) := (Below.refl _ _).alloc (Nat.le_refl _) _
      obtain ⟨w4, hw4⟩ : ∃ W, W = w3.alloc (.cells #[.int .u8 x] 5) := ⟨_, rfl⟩
      rw [← hw4] at hcv z4 ⊢
      have HC4 := Lib.hid (HC3.out.below' z4 (by omega))
      have HT4 := Lib.hid (HT3.out.trans (turn_below z4 (Nat.le_refl _)))
      clear hw4 z4
      refine hK9.out _ _ trivial (fun hHeld => ?_)
      clear hK9 K9
      try simp only [Act.put, lgA, lgB, lgC, lgD, lgE, lgF]
      refine wpAnyH_ready (rs := [7]) (by kernel_rfl) (by simp) ?_
      refine AllReadyH.cons rfl (fun K9 hK9 => ?_) AllReadyH.nil
      go_simp
      refine hK9.out _ _ trivial (fun hHeld => ?_)
      clear hK9 K9
      try simp only [Act.put, lgA, lgB, lgC, lgD, lgE, lgF]
      have hmn : min k s.size ≤ 1000 := by omega
      have hb1 : (bs [r]).size = 1 := rfl
      refine wpAnyH_take (i := 8) (v := .string (s.extract 0 k ++ bs [r])) rfl (by kernel_rfl) (by kernel_rfl) (by kernel_rfl) (fun _ _ _ h => h) (Or.inl ⟨by rfl, ?_⟩) (by assumption) ?_
      · intro w hSw; (try dsimp only at hSw); go_simp; first | done | rfl | omega | (split <;> first | rfl | (exfalso; omega))
      try simp only [Act.put, lgA, lgB, lgC, lgD, lgE, lgF]
      refine wpAnyH_take (i := 12) (v := .string (s.extract 0 k ++ bs [r] ++ s.extract k s.size)) rfl (by kernel_rfl) (by kernel_rfl) (by kernel_rfl) (fun _ _ _ h => h) (Or.inl ⟨by rfl, ?_⟩) (by assumption) ?_
      · intro w hSw; (try dsimp only at hSw); go_simp; first | done | rfl | omega | (split <;> first | rfl | (exfalso; omega))
      try simp only [Act.put, lgA, lgB, lgC, lgD, lgE, lgF]
      refine wpAnyH_take (i := 13) (v := ?v13_10) rfl (by kernel_rfl) (by kernel_rfl) (by kernel_rfl) (fun _ _ _ h => h) (Or.inl ⟨by rfl, ?hy13_10⟩) (by assumption) ?rest13_10
      case hy13_10 => intro w hSw; (try dsimp only at hSw); go_simp; (try with_reducible rfl)
      try simp only [Act.put, lgA, lgB, lgC, lgD, lgE, lgF]
      refine wpAnyH_done (by kernel_rfl) ?_ _
      refine NoPanic.normal ?_
      have HC5 := HC4.out
      have HT5 := HT4.out
      go_wp2_with fail
      go_ret
      exact ⟨_, rfl, by rw [ByteArray.size_append, ByteArray.size_append]; omega, HC5, HT5⟩
    · have HC3 := HC2.out
      have HT3 := HT2.out
      clear hdr
      go_wp2_with fail
      go_ret
      exact ⟨_, rfl, by omega, HC3, HT3⟩
    · go_wp2_with fail
      refine wp_region_noPanic ?_
      refine wp_region_held_drew (S := (fun W => True)) (by kernel_rfl) ?hS11 (fun hHeld => ?_)
      case hS11 => trivial
      refine wpAnyH_take (i := 0) (v := ?v0_12) rfl (by kernel_rfl) (by kernel_rfl) (by kernel_rfl) (fun _ _ _ h => h) (Or.inl ⟨by rfl, ?hy0_12⟩) (by assumption) ?rest0_12
      case hy0_12 => intro w hSw; (try dsimp only at hSw); go_simp; (try with_reducible rfl)
      try simp only [Act.put, lgA, lgB, lgC, lgD, lgE, lgF]
      refine wpAnyH_take (i := 1) (v := ?v1_13) rfl (by kernel_rfl) (by kernel_rfl) (by kernel_rfl) (fun _ _ _ h => h) (Or.inl ⟨by rfl, ?hy1_13⟩) (by assumption) ?rest1_13
      case hy1_13 => intro w hSw; (try dsimp only at hSw); go_simp; (try with_reducible rfl)
      try simp only [Act.put, lgA, lgB, lgC, lgD, lgE, lgF]
      refine wpAnyH_take (i := 2) (v := ?v2_14) rfl (by kernel_rfl) (by kernel_rfl) (by kernel_rfl) (fun _ _ _ h => h) (Or.inl ⟨by rfl, ?hy2_14⟩) (by assumption) ?rest2_14
      case hy2_14 => intro w hSw; (try dsimp only at hSw); go_simp; (try with_reducible rfl)
      try simp only [Act.put, lgA, lgB, lgC, lgD, lgE, lgF]
      refine wpAnyH_take (i := 3) (v := ?v3_15) rfl (by kernel_rfl) (by kernel_rfl) (by kernel_rfl) (fun _ _ _ h => h) (Or.inl ⟨by rfl, ?hy3_15⟩) (by assumption) ?rest3_15
      case hy3_15 => intro w hSw; (try dsimp only at hSw); go_simp; (try with_reducible rfl)
      try simp only [Act.put, lgA, lgB, lgC, lgD, lgE, lgF]
      refine wpAnyH_take (i := 4) (v := ?v4_16) rfl (by kernel_rfl) (by kernel_rfl) (by kernel_rfl) (fun _ _ _ h => h) (Or.inl ⟨by rfl, ?hy4_16⟩) (by assumption) ?rest4_16
      case hy4_16 => intro w hSw; (try dsimp only at hSw); go_simp; (try with_reducible rfl)
      try simp only [Act.put, lgA, lgB, lgC, lgD, lgE, lgF]
      refine wpAnyH_take (i := 5) (v := ?v5_17) rfl (by kernel_rfl) (by kernel_rfl) (by kernel_rfl) (fun _ _ _ h => h) (Or.inl ⟨by rfl, ?hy5_17⟩) (by assumption) ?rest5_17
      case hy5_17 => intro w hSw; (try dsimp only at hSw); go_simp; (try with_reducible rfl)
      try simp only [Act.put, lgA, lgB, lgC, lgD, lgE, lgF]
      refine wpAnyH_take (i := 6) (v := ?v6_18) rfl (by kernel_rfl) (by kernel_rfl) (by kernel_rfl) (fun _ _ _ h => h) (Or.inl ⟨by rfl, ?hy6_18⟩) (by assumption) ?rest6_18
      case hy6_18 => intro w hSw; (try dsimp only at hSw); go_simp; (try with_reducible rfl)
      try simp only [Act.put, lgA, lgB, lgC, lgD, lgE, lgF]
      refine wpAnyH_take (i := 7) (v := ?v7_19) rfl (by kernel_rfl) (by kernel_rfl) (by kernel_rfl) (fun _ _ _ h => h) (Or.inl ⟨by rfl, ?hy7_19⟩) (by assumption) ?rest7_19
      case hy7_19 => intro w hSw; (try dsimp only at hSw); go_simp; (try with_reducible rfl)
      try simp only [Act.put, lgA, lgB, lgC, lgD, lgE, lgF]
      refine wpAnyH_take (i := 15) (v := ?v15_20) rfl (by kernel_rfl) (by kernel_rfl) (by kernel_rfl) (fun _ _ _ h => h) (Or.inl ⟨by rfl, ?hy15_20⟩) (by assumption) ?rest15_20
      case hy15_20 => intro w hSw; (try dsimp only at hSw); go_simp; (try with_reducible rfl)
      try simp only [Act.put, lgA, lgB, lgC, lgD, lgE, lgF]
      refine wpAnyH_take (i := 16) (v := ?v16_21) rfl (by kernel_rfl) (by kernel_rfl) (by kernel_rfl) (fun _ _ _ h => h) (Or.inl ⟨by rfl, ?hy16_21⟩) (by assumption) ?rest16_21
      case hy16_21 => intro w hSw; (try dsimp only at hSw); go_simp; (try with_reducible rfl)
      try simp only [Act.put, lgA, lgB, lgC, lgD, lgE, lgF]
      refine wpAnyH_take (i := 17) (v := ?v17_22) rfl (by kernel_rfl) (by kernel_rfl) (by kernel_rfl) (fun _ _ _ h => h) (Or.inl ⟨by rfl, ?hy17_22⟩) (by assumption) ?rest17_22
      case hy17_22 => intro w hSw; (try dsimp only at hSw); go_simp; (try with_reducible rfl)
      try simp only [Act.put, lgA, lgB, lgC, lgD, lgE, lgF]
      refine wpAnyH_take (i := 18) (v := ?v18_23) rfl (by kernel_rfl) (by kernel_rfl) (by kernel_rfl) (fun _ _ _ h => h) (Or.inl ⟨by rfl, ?hy18_23⟩) (by assumption) ?rest18_23
      case hy18_23 => intro w hSw; (try dsimp only at hSw); go_simp; (try with_reducible rfl)
      try simp only [Act.put, lgA, lgB, lgC, lgD, lgE, lgF]
      refine wpAnyH_ready (rs := [8]) (by kernel_rfl) (by simp) ?_
      refine AllReadyH.cons rfl (fun K9 hK9 => ?_) AllReadyH.nil
      go_simp
      refine (l1Below_any _ cb ba bn bc 255 (by omega) (HC2.out.below' hdr (show cb < w2.heap.size by omega))).mono ?_
      rintro e w3 ⟨x, rfl, hx0, hx1, hx2, hc3, hk3⟩
      have HC3 := Lib.hid hc3
      have HT3 := Lib.hid ((HT2.out.trans (turn_below hdr (Nat.le_refl _))).trans hk3.turn)
      have s3 : w2.heap.size ≤ w3.heap.size := Nat.le_of_eq hk3.size.symm
      clear hc3 hk3 HC2 HT2 hdr
      refine hK9.out _ _ trivial (fun hHeld => ?_)
      clear hK9 K9
      try simp only [Act.put, lgA, lgB, lgC, lgD, lgE, lgF]
      refine wpAnyH_take (i := 9) (v := ?v9_24) rfl (by kernel_rfl) (by kernel_rfl) (by kernel_rfl) (fun _ _ _ h => h) (Or.inl ⟨by rfl, ?hy9_24⟩) (by assumption) ?rest9_24
      case hy9_24 => intro w hSw; (try dsimp only at hSw); go_simp; (try with_reducible rfl)
      try simp only [Act.put, lgA, lgB, lgC, lgD, lgE, lgF]
      refine wpAnyH_take (i := 10) (v := ?v10_25) rfl (by kernel_rfl) (by kernel_rfl) (by kernel_rfl) (fun _ _ _ h => h) (Or.inl ⟨by rfl, ?hy10_25⟩) (by assumption) ?rest10_25
      case hy10_25 => intro w hSw; (try dsimp only at hSw); go_simp; (try with_reducible rfl)
      try simp only [Act.put, lgA, lgB, lgC, lgD, lgE, lgF]
      refine wpAnyH_take (i := 11) (v := ?v11_26) rfl (by kernel_rfl) (by kernel_rfl) (by kernel_rfl) (fun _ _ _ h => h) (Or.inl ⟨by rfl, ?hy11_26⟩) (by assumption) ?rest11_26
      case hy11_26 => intro w hSw; (try dsimp only at hSw); go_simp; (try with_reducible rfl)
      try simp only [Act.put, lgA, lgB, lgC, lgD, lgE, lgF]
      refine wpAnyH_ready (rs := [12]) (by kernel_rfl) (by simp) ?_
      refine AllReadyH.cons rfl (fun K9 hK9 => ?_) AllReadyH.nil
      go_simp
      obtain ⟨V, hV⟩ : ∃ q, q = IntKind.u8.wrap (bits .xor .i64 (IntKind.i64.wrap (s[k].toNat : Int)) (IntKind.i64.wrap (1 + x))) := ⟨_, rfl⟩
      obtain ⟨hV0, hV1⟩ : 0 ≤ V ∧ V ≤ 255 := by rw [hV, IntKind.wrap_u8]; omega
      rw [← hV]
      obtain ⟨r, hr⟩ := u8_of hV0 hV1
      have hcv := own_bytes_back (byte_lit (W := w3) hr)
      have z4 : Below w3.heap.size w3 (w3.alloc (.cells #[.int .u8 V] 5)) := (Below.refl _ _).alloc (Nat.le_refl _) _
      obtain ⟨w4, hw4⟩ : ∃ W, W = w3.alloc (.cells #[.int .u8 V] 5) := ⟨_, rfl⟩
      rw [← hw4] at hcv z4 ⊢
      have HC4 := Lib.hid (HC3.out.below' z4 (by omega))
      have HT4 := Lib.hid (HT3.out.trans (turn_below z4 (Nat.le_refl _)))
      clear hw4 z4 hV
      refine hK9.out _ _ trivial (fun hHeld => ?_)
      clear hK9 K9
      try simp only [Act.put, lgA, lgB, lgC, lgD, lgE, lgF]
      refine wpAnyH_ready (rs := [13]) (by kernel_rfl) (by simp) ?_
      refine AllReadyH.cons rfl (fun K9 hK9 => ?_) AllReadyH.nil
      go_simp
      refine hK9.out _ _ trivial (fun hHeld => ?_)
      clear hK9 K9
      try simp only [Act.put, lgA, lgB, lgC, lgD, lgE, lgF]
      have hmn : min k s.size ≤ 1000 := by omega
      have hb1 : (bs [r]).size = 1 := rfl
      refine wpAnyH_take (i := 14) (v := .string (s.extract 0 k ++ bs [r])) rfl (by kernel_rfl) (by kernel_rfl) (by kernel_rfl) (fun _ _ _ h => h) (Or.inl ⟨by rfl, ?_⟩) (by assumption) ?_
      · intro w hSw; (try dsimp only at hSw); go_simp; first | done | rfl | omega | (split <;> first | rfl | (exfalso; omega))
      try simp only [Act.put, lgA, lgB, lgC, lgD, lgE, lgF]
      refine wpAnyH_take (i := 19) (v := .string (s.extract 0 k ++ bs [r] ++ s.extract (k + 1) s.size)) rfl (by kernel_rfl) (by kernel_rfl) (by kernel_rfl) (fun _ _ _ h => h) (Or.inl ⟨by rfl, ?_⟩) (by assumption) ?_
      · intro w hSw; (try dsimp only at hSw); go_simp; first | done | rfl | omega | (split <;> first | rfl | (exfalso; omega))
      try simp only [Act.put, lgA, lgB, lgC, lgD, lgE, lgF]
      refine wpAnyH_take (i := 20) (v := ?v20_27) rfl (by kernel_rfl) (by kernel_rfl) (by kernel_rfl) (fun _ _ _ h => h) (Or.inl ⟨by rfl, ?hy20_27⟩) (by assumption) ?rest20_27
      case hy20_27 => intro w hSw; (try dsimp only at hSw); go_simp; (try with_reducible rfl)
      try simp only [Act.put, lgA, lgB, lgC, lgD, lgE, lgF]
      refine wpAnyH_done (by kernel_rfl) ?_ _
      refine NoPanic.normal ?_
      have HC5 := HC4.out
      have HT5 := HT4.out
      go_wp2_with fail
      go_ret
      exact ⟨_, rfl, by rw [ByteArray.size_append, ByteArray.size_append]; omega, HC5, HT5⟩

end Go.Proofs.YtpgfkjcekhifiaaGreatDoor
