/- Texts joined for one claim: ParD2, HeldDp. -/
import Derived.Test.YtpgfkjcekhifiaaGreatDoorQ155b982bd8
import Derived.Test.YtpgfkjcekhifiaaGreatDoorQ6218e9c564
import Derived.Test.YtpgfkjcekhifiaaGreatDoorQ172172a568
import Derived.Test.YtpgfkjcekhifiaaGreatDoorQ6748bab5ad
import Derived.Test.YtpgfkjcekhifiaaGreatDoorQe58ef1fdfa
import Derived.BigRegion

namespace Go.Proofs.YtpgfkjcekhifiaaGreatDoor

open Go.RowKit

set_option linter.unusedVariables false

set_option linter.unusedSimpArgs false

set_option synthInstance.maxSize 2000

set_option synthInstance.maxHeartbeats 400000

theorem list3 {l : List UInt8} (h : l.length = 3) : ∃ a b c, l = [a, b, c] := by
  match l, h with
  | [a, b, c], _ => exact ⟨a, b, c, rfl⟩

theorem list4 {l : List UInt8} (h : l.length = 4) : ∃ a b c d, l = [a, b, c, d] := by
  match l, h with
  | [a, b, c, d], _ => exact ⟨a, b, c, d, rfl⟩

theorem parDp_zero {lo hi : Nat} {w : World} (h : lo ≤ hi) : Own oDp lo hi w [.string (ByteArray.mk #[]), .slice none 0 0, .int .i64 0] zeroDp :=
  oDp_mk (x := zeroDp) (by decide) (own_nil_S (B := lo)) (show I64 0 by unfold I64; omega) (Nat.le_refl _) h

set_option maxRecDepth 100000 in
set_option maxHeartbeats 2000000 in
theorem parDp_spec (s : ByteArray) (w : World) (hs : s.size ≤ 1048576) :
    Calls Tryz.prog 22 #[.string s] w fun e w' => ∃ cs, e = .returned (.tuple #[.agg cs.toArray, .bool (parDp s).isSome]) ∧ Own oDp w.heap.size w'.heap.size w' cs ((parDp s).getD zeroDp) ∧ Below w.heap.size w w' := by
  have hl : s.data.toList.length = s.size := by simp
  by_cases h3 : s.size = 3
  · obtain ⟨b0, b1, b2, he⟩ := list3 (hl.trans h3)
    have := parDp_spec3 b0 b1 b2 w
    have e : s = ByteArray.mk #[b0, b1, b2] := by rw [← bs_of' s, he]
    rw [← e] at this
    unfold parDp
    rw [he]
    exact this
  by_cases h4 : s.size = 4
  · obtain ⟨b0, b1, b2, b3, he⟩ := list4 (hl.trans h4)
    have := parDp_spec4 b0 b1 b2 b3 w
    have e : s = ByteArray.mk #[b0, b1, b2, b3] := by rw [← bs_of' s, he]
    rw [← e] at this
    unfold parDp
    rw [he]
    exact this
  by_cases h5 : s.size = 5
  · obtain ⟨b0, b1, b2, b3, b4, he⟩ := list5 (hl.trans h5)
    have := parDp_spec5 b0 b1 b2 b3 b4 w
    have e : s = ByteArray.mk #[b0, b1, b2, b3, b4] := by rw [← bs_of' s, he]
    rw [← e] at this
    unfold parDp
    rw [he]
    exact this
  have hN : parDp s = none := by
    unfold parDp parDpL
    rw [if_neg (by omega)]
  rw [hN]
  clear hN hl
  rcases (by omega : s.size < 3 ∨ 5 < s.size) with h | h
  · go_enter Tryz.func22, Tryz.ntmps22
    go_wp2_with fail
    refine bodyPost_ret (v := .tuple #[.agg #[.string (ByteArray.mk #[]), .slice none 0 0, .int .i64 0], .bool false]) (by simp [results, Tryz.results22, go_sem]) rfl ⟨[.string (ByteArray.mk #[]), .slice none 0 0, .int .i64 0], rfl, ?_, ?_⟩
    · exact parDp_zero (by simp)
    · repeat (refine Below.setCell ?_ (by simp only []; omega) _)
      exact (Below.refl _ _).alloc (Nat.le_refl _) _
  · have h9 : ¬ s.size < 3 := by omega
    go_enter Tryz.func22, Tryz.ntmps22
    go_wp2_with fail
    refine bodyPost_ret (v := .tuple #[.agg #[.string (ByteArray.mk #[]), .slice none 0 0, .int .i64 0], .bool false]) (by simp [results, Tryz.results22, go_sem]) rfl ⟨[.string (ByteArray.mk #[]), .slice none 0 0, .int .i64 0], rfl, ?_, ?_⟩
    · exact parDp_zero (by simp)
    · repeat (refine Below.setCell ?_ (by simp only []; omega) _)
      exact (Below.refl _ _).alloc (Nat.le_refl _) _

theorem digs_len (l : List UInt8) : (digs? l).length ≤ l.length := by
  unfold digs?
  split
  · rw [vals_len]; exact Nat.le_refl _
  · simp

theorem bs_take1 (x : UInt8) (r : List UInt8) : (bs (x :: r)).extract 0 1 = bs [x] := by
  apply ByteArray.ext
  simp [bs]

theorem bs_drop1 (x : UInt8) (r : List UInt8) (n : Nat) (h : n = r.length + 1) : (bs (x :: r)).extract 1 n = bs r := by
  subst h
  apply ByteArray.ext
  simp [bs]

set_option maxRecDepth 100000 in
set_option maxHeartbeats 2000000 in
theorem parDp_impl (s : ByteArray) (w : World) (hs : s.size ≤ 1048576) (hm : ∃ m, w.cell? ⟨0, 0, none⟩ = some (.int .i64 m)) :
    Calls Tryz.prog 21 #[.string s] w fun e w' => ∃ cs, e = .returned (.tuple #[.agg cs.toArray, .bool (parDp s).isSome]) ∧ Own oDp w.heap.size w'.heap.size w' cs ((parDp s).getD zeroDp) ∧ Below w.heap.size w w' := by
  obtain ⟨m, hm⟩ := hm
  have hm0 := cell_lt hm
  obtain ⟨sl, rfl⟩ : ∃ sl, s = bs sl := ⟨_, (bs_of' s).symm⟩
  have hE := Lib.hid (par_early (l := sl))
  have hL := Lib.hid (par_late (l := sl))
  obtain ⟨P, hP⟩ : ∃ P, parDp (bs sl) = P := ⟨_, rfl⟩
  have hP' : parDpL sl = P := hP
  rw [hP'] at hE hL
  rw [hP]
  have HC : Hid (∀ W, W.cell? ⟨0, 0, none⟩ = some (.int .i64 m) → Calls Tryz.prog 57 #[.string (bs sl), .string (ByteArray.mk #[62])] W fun e w' => e = .returned (.tuple #[.string (bs (Lib.cut sl [62]).1), .string (bs (Lib.cut sl [62]).2.1), .bool (Lib.cut sl [62]).2.2]) ∧ ∃ n, w' = W.drewN n) := Lib.hid (fun W h => Tryz.strings_Cut (bs sl) (ByteArray.mk #[62]) m W (by omega) h)
  have hcl : (Lib.cut sl [62]).1.length ≤ sl.length := by
    unfold Lib.cut
    split
    · exact List.length_take_le' _ _
    · exact Nat.le_refl _
  obtain ⟨C, hC⟩ : ∃ C, Lib.cut sl [62] = C := ⟨_, rfl⟩
  obtain ⟨A, T, cf⟩ := C
  rw [hC] at HC hE hL hcl
  have hAl : A.length ≤ 1048576 := by have : sl.length = (bs sl).size := (bs_size sl).symm
                                      simp only at hcl; omega
  simp only at HC hE hL
  clear hC hP hP' hcl
  go_enter Tryz.func21, Tryz.ntmps21
  obtain ⟨w1, hw1⟩ : ∃ W, W = w.alloc (.cells #[.string (ByteArray.mk #[]), .slice none 0 0, .int .i64 0] 29) := ⟨_, rfl⟩
  have hb1 : Below w.heap.size w w1 := by rw [hw1]; exact (Below.refl _ _).alloc (Nat.le_refl _) _
  have s1 : w1.heap.size = w.heap.size + 1 := by rw [hw1]; simp
  have r_0 : w1.cell? ⟨w.heap.size, 0, none⟩ = some (.string (ByteArray.mk #[])) := by rw [hw1]; exact box_cell (Below.refl _ _) rfl
  have r_1 : w1.cell? ⟨w.heap.size, 1, none⟩ = some (.slice none 0 0) := by rw [hw1]; exact box_cell (Below.refl _ _) rfl
  have r_2 : w1.cell? ⟨w.heap.size, 2, none⟩ = some (.int .i64 0) := by rw [hw1]; exact box_cell (Below.refl _ _) rfl
  have f_0 : w1.frozen? ⟨w.heap.size, 0, none⟩ = false := by rw [hw1]; exact box_frozen (Below.refl _ _)
  have f_1 : w1.frozen? ⟨w.heap.size, 1, none⟩ = false := by rw [hw1]; exact box_frozen (Below.refl _ _)
  have f_2 : w1.frozen? ⟨w.heap.size, 2, none⟩ = false := by rw [hw1]; exact box_frozen (Below.refl _ _)
  go_wp2_with fail
  rw [← hw1]
  clear hw1
  refine (HC.out w1 ((hb1.cell (p := ⟨0, 0, none⟩) hm0).trans hm)).mono ?_
  rintro e w2 ⟨rfl, hn2⟩
  have z2 : Below w1.heap.size w1 w2 := by obtain ⟨n, rfl⟩ := hn2; exact Drew.below ⟨n, rfl⟩ _
  have s2 := z2.size
  have s2' : w2.heap.size = w1.heap.size := by obtain ⟨n, rfl⟩ := hn2; rfl
  have hb2 := on hb1 z2
  replace r_0 := bxc z2 r_0
  replace r_1 := bxc z2 r_1
  replace r_2 := bxc z2 r_2
  replace f_0 := bxf z2 f_0
  replace f_1 := bxf z2 f_1
  replace f_2 := bxf z2 f_2
  clear HC hn2 hm hm0
  match A, hAl, hE, hL with
  | [], _, hE, hL =>
    obtain rfl : P = none := hE.out (Or.inl rfl)
    clear hE hL
    go_wp2_with fail
    refine bodyPost_ret (v := .tuple #[.agg #[.string (ByteArray.mk #[]), .slice none 0 0, .int .i64 0], .bool false]) (by simp [results, Tryz.results21, go_sem, r_0, r_1, r_2, f_0, f_1, f_2]) rfl ⟨[.string (ByteArray.mk #[]), .slice none 0 0, .int .i64 0], rfl, ?_, ?_⟩
    · exact parDp_zero (by simp [World.setCell]; omega)
    · repeat (refine Below.setCell ?_ (by simp only []; omega) _)
      exact hb2
  | x :: r, hAl, hE, hL =>
    by_cases hT : T.length = 1
    case neg =>
      obtain rfl : P = none := hE.out (Or.inr hT)
      have hT1 : ¬ ((T.length : Int) = 1) := by omega
      have hT2 : (bs T).size = T.length := bs_size T
      clear hE hL
      go_wp2_with fail
      refine bodyPost_ret (v := .tuple #[.agg #[.string (ByteArray.mk #[]), .slice none 0 0, .int .i64 0], .bool false]) (by simp [results, Tryz.results21, go_sem, r_0, r_1, r_2, f_0, f_1, f_2]) rfl ⟨[.string (ByteArray.mk #[]), .slice none 0 0, .int .i64 0], rfl, ?_, ?_⟩
      · exact parDp_zero (by simp [World.setCell]; omega)
      · repeat (refine Below.setCell ?_ (by simp only []; omega) _)
        exact hb2
    obtain ⟨y, rfl⟩ : ∃ y, T = [y] := by
      match T, hT with
      | [y], _ => exact ⟨y, rfl⟩
    have HP := Lib.hid (hL.out (by simp))
    clear hE hL hT
    have hsz : (bs (x :: r)).size = r.length + 1 := bs_size _
    have hd1 := bs_drop1 x r _ hsz
    have hD := Lib.hid (fun W => digitsOf_any (bs r) W (by rw [bs_size]; simp at hAl; omega))
    go_wp2_with fail
    rw [bs_drop1 x r _ rfl]
    refine (hD.out _).mono ?_
    rintro e wA ⟨u, bq, rfl, oA, zA⟩
    obtain ⟨ub, un, uc, rfl⟩ := oI_form1 oA
    have sA := zA.size
    have hbA := on hb2 zA
    replace r_0 := bxc zA r_0
    replace r_1 := bxc zA r_1
    replace r_2 := bxc zA r_2
    replace f_0 := bxf zA f_0
    replace f_1 := bxf zA f_1
    replace f_2 := bxf zA f_2
    clear hD hd1
    have HOA := Lib.hid oA
    clear oA
    go_wp2_with fail
    go_region
    have n1 : (bs [y])[0]'(by rw [bs_size]; simp) = y := rfl
    simp only [bs_take1, n1, byte_wrap]
    clear n1
    obtain ⟨w3, hw3⟩ : ∃ W, W = (wA.alloc (.cells #[.string (bs [x]), .slice ub un uc, .int .i64 ((y.toNat : Int) - 48)] 29)).drew := ⟨_, rfl⟩
    rw [← hw3]
    have z3 : Below wA.heap.size wA w3 := by rw [hw3]; exact ((Below.refl _ _).alloc (Nat.le_refl _) _).drew
    have s3 : w3.heap.size = wA.heap.size + 1 := by rw [hw3]; simp
    have x_0 : w3.cell? ⟨wA.heap.size, 0, none⟩ = some (.string (bs [x])) := by rw [hw3]; show (World.alloc wA _).cell? ⟨wA.heap.size, 0, none⟩ = _; exact box_cell (Below.refl _ _) rfl
    have x_1 : w3.cell? ⟨wA.heap.size, 1, none⟩ = some (.slice ub un uc) := by rw [hw3]; show (World.alloc wA _).cell? ⟨wA.heap.size, 1, none⟩ = _; exact box_cell (Below.refl _ _) rfl
    have x_2 : w3.cell? ⟨wA.heap.size, 2, none⟩ = some (.int .i64 ((y.toNat : Int) - 48)) := by rw [hw3]; show (World.alloc wA _).cell? ⟨wA.heap.size, 2, none⟩ = _; exact box_cell (Below.refl _ _) rfl
    clear hw3
    have hb3 := on hbA z3
    replace r_0 := bxc z3 r_0
    replace r_1 := bxc z3 r_1
    replace r_2 := bxc z3 r_2
    replace f_0 := bxf z3 f_0
    replace f_1 := bxf z3 f_1
    replace f_2 := bxf z3 f_2
    have oF : Own oI (w.heap.size + 1) w3.heap.size w3 [.slice ub un uc] (digs? r) := (HOA.out.below z3 (Nat.le_refl _)).mono (by omega) (by omega)
    have HOF := Lib.hid oF
    clear oF HOA
    have h9 := y.toNat_lt
    have hI : I64 ((y.toNat : Int) - 48) := by unfold I64; omega
    have hdl := digs_len r
    simp only [List.length_cons] at hAl
    go_wp2_with fail
    refine (fmtDp_impl _ (bs [x], digs? r, (y.toNat : Int) - 48) _ (rDp_mk (by simp [bs_size]) (HOF.out.rd reads_I) hI) (by simp only []; omega)).mono ?_
    rintro e w4 ⟨rfl, z4⟩
    have s4 := z4.size
    have hb4 := on hb3 z4
    have o4 := HOF.out.below z4 (Nat.le_refl _)
    replace r_0 := bxc z4 r_0
    replace r_1 := bxc z4 r_1
    replace r_2 := bxc z4 r_2
    replace f_0 := bxf z4 f_0
    replace f_1 := bxf z4 f_1
    replace f_2 := bxf z4 f_2
    replace x_0 := bxc z4 x_0
    replace x_1 := bxc z4 x_1
    replace x_2 := bxc z4 x_2
    have HP2 : Hid (P = if fmtDp (bs [x], digs? r, (y.toNat : Int) - 48) = sl then some (bs [x], digs? r, (y.toNat : Int) - 48) else none) := HP
    clear HP
    obtain ⟨F, hF⟩ : ∃ F, fmtDp (bs [x], digs? r, (y.toNat : Int) - 48) = F := ⟨_, rfl⟩
    simp only [hF] at HP2 ⊢
    clear hF
    by_cases hq : F = sl
    · obtain rfl : P = some (bs [x], digs? r, (y.toNat : Int) - 48) := by rw [HP2.out, if_pos hq]
      subst hq
      have HO4 := Lib.hid o4
      clear HP2 o4 HOF
      go_wp2_with fail
      refine bodyPost_ret (v := .tuple #[.agg #[.string (bs [x]), .slice ub un uc, .int .i64 ((y.toNat : Int) - 48)], .bool true]) (by simp [results, Tryz.results21, go_sem, r_0, r_1, r_2, f_0, f_1, f_2]) rfl ⟨[.string (bs [x]), .slice ub un uc, .int .i64 ((y.toNat : Int) - 48)], rfl, ?_, ?_⟩
      · refine Own.mono (lo := w.heap.size + 1) (hi := w4.heap.size) ?_ (by omega) (by simp [World.setCell])
        repeat (refine Own.setOut ?_ rfl (by simp only []; omega))
        exact oDp_mk (x := (bs [x], digs? r, (y.toNat : Int) - 48)) (by simp [bs_size]) HO4.out hI (by omega) (by omega)
      · repeat (refine Below.setCell ?_ (by simp only []; omega) _)
        exact hb4
    · obtain rfl : P = none := by rw [HP2.out, if_neg hq]
      have hne : (F == sl) = false := by rw [beq_eq_false_iff_ne]; exact hq
      clear HP2 hq o4 HOF
      go_wp2_with fail
      refine bodyPost_ret (v := .tuple #[.agg #[.string (ByteArray.mk #[]), .slice none 0 0, .int .i64 0], .bool false]) (by simp [results, Tryz.results21, go_sem, r_0, r_1, r_2, f_0, f_1, f_2]) rfl ⟨[.string (ByteArray.mk #[]), .slice none 0 0, .int .i64 0], rfl, ?_, ?_⟩
      · refine Own.mono (lo := w.heap.size + 1) (hi := w4.heap.size) ?_ (by omega) (by simp [World.setCell])
        repeat (refine Own.setOut ?_ rfl (by simp only []; omega))
        exact parDp_zero (by omega)
      · repeat (refine Below.setCell ?_ (by simp only []; omega) _)
        exact hb4

end Go.Proofs.YtpgfkjcekhifiaaGreatDoor

namespace Go.Proofs.YtpgfkjcekhifiaaGreatDoor

open Go.RowKit

set_option linter.unusedVariables false

set_option linter.unusedSimpArgs false

theorem parDp_bulk (s : ByteArray) : cnt_Dp ((parDp s).getD zeroDp) ≤ 10 ∧ bulk_Dp ((parDp s).getD zeroDp) ≤ 10 := by
  cases hp : parDp s with
  | none => exact ⟨by decide, by decide⟩
  | some x =>
    obtain ⟨ho, _⟩ := par_some hp
    obtain ⟨c, _, h1, h2, _⟩ := dp_parts ho
    have h3 : x.1.size = 1 := by rw [h1, bs_size]; rfl
    show cnt_I x.2.1 ≤ 10 ∧ x.1.size + bulk_I x.2.1 ≤ 10
    unfold cnt_I bulk_I
    omega

theorem someCell {w W : World} {p : Addr} (h : ∃ m, w.cell? p = some (.int .i64 m)) (hb : Below w.heap.size w W) : ∃ m, W.cell? p = some (.int .i64 m) := by
  obtain ⟨m, hm⟩ := h
  exact ⟨m, (hb.cell (p := p) (cell_lt hm)).trans hm⟩

end Go.Proofs.YtpgfkjcekhifiaaGreatDoor
