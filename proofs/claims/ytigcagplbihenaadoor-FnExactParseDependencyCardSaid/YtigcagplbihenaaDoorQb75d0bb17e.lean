/- Texts joined for one claim: ParI, ValL, ParDP, ParD, ParD2, HeldDp. -/
import Derived.Test.YtigcagplbihenaaDoorQb6380f1adb
import Derived.Deep.RegionHeld3
import Derived.BigRegion

/- Contracts: inclusions out of texts, both ways. Written by a program. -/
namespace Go.Proofs.YtigcagplbihenaaDoor
open Go.RowKit
set_option linter.unusedVariables false
set_option linter.unusedSimpArgs false
set_option synthInstance.maxSize 2000
set_option synthInstance.maxHeartbeats 400000

/-- The inclusion that a text of five bytes would say. -/
def rawIn (b0 b1 b3 b4 : UInt8) : DIn := (bs [b0], (b1.toNat : Int) - 48, bs [b3], (b4.toNat : Int) - 48)
def parInL (l : List UInt8) : Option DIn :=
  match l with
  | [b0, b1, _, b3, b4] => if fmtIn (rawIn b0 b1 b3 b4) = l then some (rawIn b0 b1 b3 b4) else none
  | _ => none
def parIn (s : ByteArray) : Option DIn := parInL s.data.toList
def zeroIn : DIn := (ByteArray.mk #[], 0, ByteArray.mk #[], 0)
theorem list5 {l : List UInt8} (h : l.length = 5) : ∃ a b c d e, l = [a, b, c, d, e] := by
  match l, h with
  | [a, b, c, d, e], _ => exact ⟨a, b, c, d, e, rfl⟩
theorem parIn_short {s : ByteArray} (h : ¬ s.size = 5) : parIn s = none := by
  unfold parIn parInL
  split
  · rename_i e
    exfalso; apply h
    have : s.data.toList.length = 5 := by rw [e]; rfl
    simpa using this
  · rfl
def cellsIn (x : DIn) : Array Value := #[.string x.1, .int .i64 x.2.1, .string x.2.2.1, .int .i64 x.2.2.2]
theorem byte_wrap (b : UInt8) : wrap64 (wrap64 (b.toNat : Int) - 48) = (b.toNat : Int) - 48 := by
  have h := b.toNat_lt
  unfold wrap64
  omega
theorem rawIn_rep (w : World) (b0 b1 b3 b4 : UInt8) : rIn.rep w (cellsIn (rawIn b0 b1 b3 b4)).toList (rawIn b0 b1 b3 b4) := by
  have h1 := b1.toNat_lt
  have h4 := b4.toNat_lt
  exact rIn_mk (x := rawIn b0 b1 b3 b4) (by simp [rawIn, bs_size]) (show I64 ((b1.toNat : Int) - 48) by unfold I64; omega) (by simp [rawIn, bs_size]) (show I64 ((b4.toNat : Int) - 48) by unfold I64; omega)

set_option maxRecDepth 100000 in
set_option maxHeartbeats 2000000 in
theorem parIn_spec (s : ByteArray) (w : World) (hs : s.size ≤ 1048576) :
    Calls Tryd.prog 14 #[.string s] w fun e w' => e = .returned (.tuple #[.agg (cellsIn ((parIn s).getD zeroIn)), .bool (parIn s).isSome]) ∧ Below w.heap.size w w' := by
  by_cases h5 : s.size = 5
  · obtain ⟨b0, b1, b2, b3, b4, hl⟩ := list5 (l := s.data.toList) (by simpa using h5)
    have HP : Hid (parIn s = if fmtIn (rawIn b0 b1 b3 b4) = [b0, b1, b2, b3, b4] then some (rawIn b0 b1 b3 b4) else none) := Lib.hid (by unfold parIn; rw [hl]; rfl)
    obtain ⟨P, hP⟩ : ∃ P, parIn s = P := ⟨_, rfl⟩
    rw [hP] at HP ⊢
    obtain rfl : s = ByteArray.mk #[b0, b1, b2, b3, b4] := by rw [← bs_of' s, hl]
    clear h5 hl hP hs
    have HF : Hid (∀ W, Calls Tryd.prog 11 #[.agg #[.string (bs [b0]), .int .i64 ((b1.toNat : Int) - 48), .string (bs [b3]), .int .i64 ((b4.toNat : Int) - 48)]] W fun e w' => e = .returned (.string (bs (fmtIn (rawIn b0 b1 b3 b4)))) ∧ Below W.heap.size W w') := Lib.hid (fun W => fmtIn_spec _ _ W (rawIn_rep W b0 b1 b3 b4))
    go_enter Tryd.func14, Tryd.ntmps14
    go_wp2_with fail
    go_region
    have e1 : (ByteArray.mk #[b0, b1, b2, b3, b4]).extract 0 1 = bs [b0] := rfl
    have e3 : (ByteArray.mk #[b0, b1, b2, b3, b4]).extract 3 4 = bs [b3] := rfl
    have n1 : (ByteArray.mk #[b0, b1, b2, b3, b4])[1]'(show 1 < 5 by omega) = b1 := rfl
    have n4 : (ByteArray.mk #[b0, b1, b2, b3, b4])[4]'(show 4 < 5 by omega) = b4 := rfl
    simp only [e1, e3, n1, n4, byte_wrap]
    clear e1 e3 n1 n4
    obtain ⟨F, hF⟩ : ∃ F, fmtIn (rawIn b0 b1 b3 b4) = F := ⟨_, rfl⟩
    simp only [hF] at HF HP
    clear hF
    obtain ⟨wb, hwb⟩ : ∃ W, W = (w.alloc (.cells #[.string (ByteArray.mk #[]), .int .i64 0, .string (ByteArray.mk #[]), .int .i64 0] 26)) := ⟨_, rfl⟩
    have sb : wb.heap.size = w.heap.size + 1 := by rw [hwb]; simp
    have hbb : Below w.heap.size w wb := by rw [hwb]; exact (Below.refl _ _).alloc (Nat.le_refl _) _
    rw [← hwb]
    obtain ⟨w1, hw1⟩ : ∃ W, W = (wb.alloc (.cells #[.string (bs [b0]), .int .i64 ((b1.toNat : Int) - 48), .string (bs [b3]), .int .i64 ((b4.toNat : Int) - 48)] 26)).drew := ⟨_, rfl⟩
    rw [← hw1]
    have s1 : w1.heap.size = w.heap.size + 1 + 1 := by rw [hw1]; simp [sb]
    have hb1 : Below w.heap.size w w1 := by rw [hw1]; exact (hbb.alloc (by omega) _).drew
    have r_0 : w1.cell? ⟨w.heap.size, 0, none⟩ = some (.string (ByteArray.mk #[])) := by rw [hw1, hwb]; simp [go_sem]
    have r_1 : w1.cell? ⟨w.heap.size, 1, none⟩ = some (.int .i64 0) := by rw [hw1, hwb]; simp [go_sem]
    have r_2 : w1.cell? ⟨w.heap.size, 2, none⟩ = some (.string (ByteArray.mk #[])) := by rw [hw1, hwb]; simp [go_sem]
    have r_3 : w1.cell? ⟨w.heap.size, 3, none⟩ = some (.int .i64 0) := by rw [hw1, hwb]; simp [go_sem]
    have x_0 : w1.cell? ⟨w.heap.size + 1, 0, none⟩ = some (.string (bs [b0])) := by rw [hw1, ← sb]; simp [go_sem]
    have x_1 : w1.cell? ⟨w.heap.size + 1, 1, none⟩ = some (.int .i64 ((b1.toNat : Int) - 48)) := by rw [hw1, ← sb]; simp [go_sem]
    have x_2 : w1.cell? ⟨w.heap.size + 1, 2, none⟩ = some (.string (bs [b3])) := by rw [hw1, ← sb]; simp [go_sem]
    have x_3 : w1.cell? ⟨w.heap.size + 1, 3, none⟩ = some (.int .i64 ((b4.toNat : Int) - 48)) := by rw [hw1, ← sb]; simp [go_sem]
    have f_0 : w1.frozen? ⟨w.heap.size, 0, none⟩ = false := by rw [hw1, hwb]; simp [go_sem]
    have f_1 : w1.frozen? ⟨w.heap.size, 1, none⟩ = false := by rw [hw1, hwb]; simp [go_sem]
    have f_2 : w1.frozen? ⟨w.heap.size, 2, none⟩ = false := by rw [hw1, hwb]; simp [go_sem]
    have f_3 : w1.frozen? ⟨w.heap.size, 3, none⟩ = false := by rw [hw1, hwb]; simp [go_sem]
    clear hw1 hwb hbb sb
    go_wp2_with fail
    refine (HF.out _).mono ?_
    rintro e w2 ⟨rfl, z2⟩
    have s2 := z2.size
    have hb2 := on hb1 z2
    replace r_0 := (z2.cell (p := ⟨w.heap.size, 0, none⟩) (by simp only []; omega)).trans r_0
    replace r_1 := (z2.cell (p := ⟨w.heap.size, 1, none⟩) (by simp only []; omega)).trans r_1
    replace r_2 := (z2.cell (p := ⟨w.heap.size, 2, none⟩) (by simp only []; omega)).trans r_2
    replace r_3 := (z2.cell (p := ⟨w.heap.size, 3, none⟩) (by simp only []; omega)).trans r_3
    replace f_0 := (z2.frozen (p := ⟨w.heap.size, 0, none⟩) (by simp only []; omega)).trans f_0
    replace f_1 := (z2.frozen (p := ⟨w.heap.size, 1, none⟩) (by simp only []; omega)).trans f_1
    replace f_2 := (z2.frozen (p := ⟨w.heap.size, 2, none⟩) (by simp only []; omega)).trans f_2
    replace f_3 := (z2.frozen (p := ⟨w.heap.size, 3, none⟩) (by simp only []; omega)).trans f_3
    replace x_0 := (z2.cell (p := ⟨w.heap.size + 1, 0, none⟩) (by simp only []; omega)).trans x_0
    replace x_1 := (z2.cell (p := ⟨w.heap.size + 1, 1, none⟩) (by simp only []; omega)).trans x_1
    replace x_2 := (z2.cell (p := ⟨w.heap.size + 1, 2, none⟩) (by simp only []; omega)).trans x_2
    replace x_3 := (z2.cell (p := ⟨w.heap.size + 1, 3, none⟩) (by simp only []; omega)).trans x_3
    by_cases hq : F = [b0, b1, b2, b3, b4]
    · obtain rfl : P = some (rawIn b0 b1 b3 b4) := by rw [HP.out, if_pos hq]
      subst hq
      have hB : bs [b0, b1, b2, b3, b4] = ByteArray.mk #[b0, b1, b2, b3, b4] := rfl
      rw [hB]
      have hq0 : ((ByteArray.mk #[b0, b1, b2, b3, b4]).toList == (ByteArray.mk #[b0, b1, b2, b3, b4]).toList) = true := by simp
      clear HF HP hB
      go_wp2_with fail
      refine bodyPost_ret (v := .tuple #[.agg (cellsIn (rawIn b0 b1 b3 b4)), .bool true]) (by simp [results, Tryd.results14, go_sem, cellsIn, rawIn, r_0, r_1, r_2, r_3, f_0, f_1, f_2, f_3]) rfl ⟨rfl, ?_⟩
      repeat (refine Below.setCell ?_ (by simp only []; omega) _)
      exact hb2
    · obtain rfl : P = none := by rw [HP.out, if_neg hq]
      have hne : (F == [b0, b1, b2, b3, b4]) = false := by rw [beq_eq_false_iff_ne]; exact hq
      clear HF HP hq
      go_wp2_with fail
      refine bodyPost_ret (v := .tuple #[.agg (cellsIn zeroIn), .bool false]) (by simp [results, Tryd.results14, go_sem, cellsIn, zeroIn, r_0, r_1, r_2, r_3, f_0, f_1, f_2, f_3]) rfl ⟨rfl, ?_⟩
      repeat (refine Below.setCell ?_ (by simp only []; omega) _)
      exact hb2
  · rw [parIn_short h5]
    go_enter Tryd.func14, Tryd.ntmps14
    go_wp2_with fail

    refine bodyPost_ret (v := .tuple #[.agg (cellsIn zeroIn), .bool false]) (by simp [results, Tryd.results14, go_sem, cellsIn, zeroIn]) rfl ⟨rfl, ?_⟩
    repeat (refine Below.setCell ?_ (by simp only []; omega) _)
    exact (Below.refl _ _).alloc (Nat.le_refl _) _

set_option maxRecDepth 100000 in
set_option maxHeartbeats 2000000 in
theorem parIn_impl (s : ByteArray) (w : World) (hs : s.size ≤ 1048576) :
    Calls Tryd.prog 15 #[.string s] w fun e w' => e = .returned (.tuple #[.agg (cellsIn ((parIn s).getD zeroIn)), .bool (parIn s).isSome]) ∧ Below w.heap.size w w' := by
  by_cases h5 : s.size = 5
  · obtain ⟨b0, b1, b2, b3, b4, hl⟩ := list5 (l := s.data.toList) (by simpa using h5)
    have HP : Hid (parIn s = if fmtIn (rawIn b0 b1 b3 b4) = [b0, b1, b2, b3, b4] then some (rawIn b0 b1 b3 b4) else none) := Lib.hid (by unfold parIn; rw [hl]; rfl)
    obtain ⟨P, hP⟩ : ∃ P, parIn s = P := ⟨_, rfl⟩
    rw [hP] at HP ⊢
    obtain rfl : s = ByteArray.mk #[b0, b1, b2, b3, b4] := by rw [← bs_of' s, hl]
    clear h5 hl hP hs
    have HF : Hid (∀ W, Calls Tryd.prog 13 #[.agg #[.string (bs [b0]), .int .i64 ((b1.toNat : Int) - 48), .string (bs [b3]), .int .i64 ((b4.toNat : Int) - 48)]] W fun e w' => e = .returned (.string (bs (fmtIn (rawIn b0 b1 b3 b4)))) ∧ Below W.heap.size W w') := Lib.hid (fun W => fmtIn_impl _ _ W (rawIn_rep W b0 b1 b3 b4))
    go_enter Tryd.func15, Tryd.ntmps15
    go_wp2_with fail
    go_region
    have e1 : (ByteArray.mk #[b0, b1, b2, b3, b4]).extract 0 1 = bs [b0] := rfl
    have e3 : (ByteArray.mk #[b0, b1, b2, b3, b4]).extract 3 4 = bs [b3] := rfl
    have n1 : (ByteArray.mk #[b0, b1, b2, b3, b4])[1]'(show 1 < 5 by omega) = b1 := rfl
    have n4 : (ByteArray.mk #[b0, b1, b2, b3, b4])[4]'(show 4 < 5 by omega) = b4 := rfl
    simp only [e1, e3, n1, n4, byte_wrap]
    clear e1 e3 n1 n4
    obtain ⟨F, hF⟩ : ∃ F, fmtIn (rawIn b0 b1 b3 b4) = F := ⟨_, rfl⟩
    simp only [hF] at HF HP
    clear hF
    obtain ⟨wb, hwb⟩ : ∃ W, W = (w.alloc (.cells #[.string (ByteArray.mk #[]), .int .i64 0, .string (ByteArray.mk #[]), .int .i64 0] 26)) := ⟨_, rfl⟩
    have sb : wb.heap.size = w.heap.size + 1 := by rw [hwb]; simp
    have hbb : Below w.heap.size w wb := by rw [hwb]; exact (Below.refl _ _).alloc (Nat.le_refl _) _
    rw [← hwb]
    obtain ⟨w1, hw1⟩ : ∃ W, W = (wb.alloc (.cells #[.string (bs [b0]), .int .i64 ((b1.toNat : Int) - 48), .string (bs [b3]), .int .i64 ((b4.toNat : Int) - 48)] 26)).drew := ⟨_, rfl⟩
    rw [← hw1]
    have s1 : w1.heap.size = w.heap.size + 1 + 1 := by rw [hw1]; simp [sb]
    have hb1 : Below w.heap.size w w1 := by rw [hw1]; exact (hbb.alloc (by omega) _).drew
    have r_0 : w1.cell? ⟨w.heap.size, 0, none⟩ = some (.string (ByteArray.mk #[])) := by rw [hw1, hwb]; simp [go_sem]
    have r_1 : w1.cell? ⟨w.heap.size, 1, none⟩ = some (.int .i64 0) := by rw [hw1, hwb]; simp [go_sem]
    have r_2 : w1.cell? ⟨w.heap.size, 2, none⟩ = some (.string (ByteArray.mk #[])) := by rw [hw1, hwb]; simp [go_sem]
    have r_3 : w1.cell? ⟨w.heap.size, 3, none⟩ = some (.int .i64 0) := by rw [hw1, hwb]; simp [go_sem]
    have x_0 : w1.cell? ⟨w.heap.size + 1, 0, none⟩ = some (.string (bs [b0])) := by rw [hw1, ← sb]; simp [go_sem]
    have x_1 : w1.cell? ⟨w.heap.size + 1, 1, none⟩ = some (.int .i64 ((b1.toNat : Int) - 48)) := by rw [hw1, ← sb]; simp [go_sem]
    have x_2 : w1.cell? ⟨w.heap.size + 1, 2, none⟩ = some (.string (bs [b3])) := by rw [hw1, ← sb]; simp [go_sem]
    have x_3 : w1.cell? ⟨w.heap.size + 1, 3, none⟩ = some (.int .i64 ((b4.toNat : Int) - 48)) := by rw [hw1, ← sb]; simp [go_sem]
    have f_0 : w1.frozen? ⟨w.heap.size, 0, none⟩ = false := by rw [hw1, hwb]; simp [go_sem]
    have f_1 : w1.frozen? ⟨w.heap.size, 1, none⟩ = false := by rw [hw1, hwb]; simp [go_sem]
    have f_2 : w1.frozen? ⟨w.heap.size, 2, none⟩ = false := by rw [hw1, hwb]; simp [go_sem]
    have f_3 : w1.frozen? ⟨w.heap.size, 3, none⟩ = false := by rw [hw1, hwb]; simp [go_sem]
    clear hw1 hwb hbb sb
    go_wp2_with fail
    refine (HF.out _).mono ?_
    rintro e w2 ⟨rfl, z2⟩
    have s2 := z2.size
    have hb2 := on hb1 z2
    replace r_0 := (z2.cell (p := ⟨w.heap.size, 0, none⟩) (by simp only []; omega)).trans r_0
    replace r_1 := (z2.cell (p := ⟨w.heap.size, 1, none⟩) (by simp only []; omega)).trans r_1
    replace r_2 := (z2.cell (p := ⟨w.heap.size, 2, none⟩) (by simp only []; omega)).trans r_2
    replace r_3 := (z2.cell (p := ⟨w.heap.size, 3, none⟩) (by simp only []; omega)).trans r_3
    replace f_0 := (z2.frozen (p := ⟨w.heap.size, 0, none⟩) (by simp only []; omega)).trans f_0
    replace f_1 := (z2.frozen (p := ⟨w.heap.size, 1, none⟩) (by simp only []; omega)).trans f_1
    replace f_2 := (z2.frozen (p := ⟨w.heap.size, 2, none⟩) (by simp only []; omega)).trans f_2
    replace f_3 := (z2.frozen (p := ⟨w.heap.size, 3, none⟩) (by simp only []; omega)).trans f_3
    replace x_0 := (z2.cell (p := ⟨w.heap.size + 1, 0, none⟩) (by simp only []; omega)).trans x_0
    replace x_1 := (z2.cell (p := ⟨w.heap.size + 1, 1, none⟩) (by simp only []; omega)).trans x_1
    replace x_2 := (z2.cell (p := ⟨w.heap.size + 1, 2, none⟩) (by simp only []; omega)).trans x_2
    replace x_3 := (z2.cell (p := ⟨w.heap.size + 1, 3, none⟩) (by simp only []; omega)).trans x_3
    by_cases hq : F = [b0, b1, b2, b3, b4]
    · obtain rfl : P = some (rawIn b0 b1 b3 b4) := by rw [HP.out, if_pos hq]
      subst hq
      have hB : bs [b0, b1, b2, b3, b4] = ByteArray.mk #[b0, b1, b2, b3, b4] := rfl
      rw [hB]
      have hq0 : ((ByteArray.mk #[b0, b1, b2, b3, b4]).toList == (ByteArray.mk #[b0, b1, b2, b3, b4]).toList) = true := by simp
      clear HF HP hB
      go_wp2_with fail
      refine bodyPost_ret (v := .tuple #[.agg (cellsIn (rawIn b0 b1 b3 b4)), .bool true]) (by simp [results, Tryd.results15, go_sem, cellsIn, rawIn, r_0, r_1, r_2, r_3, f_0, f_1, f_2, f_3]) rfl ⟨rfl, ?_⟩
      repeat (refine Below.setCell ?_ (by simp only []; omega) _)
      exact hb2
    · obtain rfl : P = none := by rw [HP.out, if_neg hq]
      have hne : (F == [b0, b1, b2, b3, b4]) = false := by rw [beq_eq_false_iff_ne]; exact hq
      clear HF HP hq
      go_wp2_with fail
      refine bodyPost_ret (v := .tuple #[.agg (cellsIn zeroIn), .bool false]) (by simp [results, Tryd.results15, go_sem, cellsIn, zeroIn, r_0, r_1, r_2, r_3, f_0, f_1, f_2, f_3]) rfl ⟨rfl, ?_⟩
      repeat (refine Below.setCell ?_ (by simp only []; omega) _)
      exact hb2
  · rw [parIn_short h5]
    go_enter Tryd.func15, Tryd.ntmps15
    go_wp2_with fail

    refine bodyPost_ret (v := .tuple #[.agg (cellsIn zeroIn), .bool false]) (by simp [results, Tryd.results15, go_sem, cellsIn, zeroIn]) rfl ⟨rfl, ?_⟩
    repeat (refine Below.setCell ?_ (by simp only []; omega) _)
    exact (Below.refl _ _).alloc (Nat.le_refl _) _

theorem parI_rep (s : ByteArray) (w : World) : rIn.rep w [.string ((parIn s).getD zeroIn).1, .int .i64 ((parIn s).getD zeroIn).2.1, .string ((parIn s).getD zeroIn).2.2.1, .int .i64 ((parIn s).getD zeroIn).2.2.2] ((parIn s).getD zeroIn) := by
  unfold parIn parInL
  split
  · split
    · exact rawIn_rep w _ _ _ _
    · exact rIn_mk (x := zeroIn) (by decide) (show I64 0 by unfold I64; omega) (by decide) (show I64 0 by unfold I64; omega)
  · exact rIn_mk (x := zeroIn) (by decide) (show I64 0 by unfold I64; omega) (by decide) (show I64 0 by unfold I64; omega)
theorem parI_spec (s : ByteArray) (w : World) (hs : s.size ≤ 1048576) :
    Calls Tryd.prog 14 #[.string s] w fun e w' => e = .returned (.tuple #[.agg #[.string ((parIn s).getD zeroIn).1, .int .i64 ((parIn s).getD zeroIn).2.1, .string ((parIn s).getD zeroIn).2.2.1, .int .i64 ((parIn s).getD zeroIn).2.2.2], .bool (parIn s).isSome]) ∧ Below w.heap.size w w' := parIn_spec s w hs
theorem parI_impl (s : ByteArray) (w : World) (hs : s.size ≤ 1048576) :
    Calls Tryd.prog 15 #[.string s] w fun e w' => e = .returned (.tuple #[.agg #[.string ((parIn s).getD zeroIn).1, .int .i64 ((parIn s).getD zeroIn).2.1, .string ((parIn s).getD zeroIn).2.2.1, .int .i64 ((parIn s).getD zeroIn).2.2.2], .bool (parIn s).isSome]) ∧ Below w.heap.size w w' := parIn_impl s w hs

end Go.Proofs.YtigcagplbihenaaDoor

/- Contracts: digits of a text, both ways. -/
namespace Go.Proofs.YtigcagplbihenaaDoor
open Go.RowKit
set_option linter.unusedVariables false
set_option linter.unusedSimpArgs false
set_option synthInstance.maxSize 2000
set_option synthInstance.maxHeartbeats 400000

/-- The values of the bytes, as digits. -/
def vals (l : List UInt8) : List Int := l.map (fun b => (b.toNat : Int) - 48)
theorem vals_len (l : List UInt8) : (vals l).length = l.length := by simp [vals]
theorem vals_snoc {l : List UInt8} {j : Nat} {b : UInt8} (h : l[j]? = some b) : vals (l.take (j + 1)) = vals (l.take j) ++ [(b.toNat : Int) - 48] := by
  rw [vals, List.take_add_one, h]
  simp [vals]
/-- The digits, if all are. -/
def digOk (b : UInt8) : Bool := betw (b.toNat : Int) 48 57
def digs? (l : List UInt8) : List Int := if l.all digOk then vals l else []
theorem digs_yes {l : List UInt8} (h : ∀ (j : Nat) (b : UInt8), l[j]? = some b → digOk b = true) : digs? l = vals l := by
  rw [digs?, if_pos]
  rw [List.all_eq_true]
  intro b hb
  obtain ⟨j, hj, e⟩ := List.getElem_of_mem hb
  exact h j b (by rw [List.getElem?_eq_getElem hj, e])
theorem digs_no {l : List UInt8} {j : Nat} {b : UInt8} (h : l[j]? = some b) (hb : digOk b = false) : digs? l = [] := by
  rw [digs?, if_neg]
  intro ha
  rw [List.all_eq_true] at ha
  have := ha b (List.mem_of_getElem? h)
  rw [hb] at this
  cases this
theorem str_at {s : ByteArray} {j : Nat} (h : j < s.size) : s.data.toList[j]? = some s[j] := by
  have h' : j < s.data.toList.length := by simpa using h
  rw [List.getElem?_eq_getElem h']
  rfl

set_option maxRecDepth 100000 in
set_option maxHeartbeats 2000000 in
theorem l4Values_any (s : ByteArray) (w : World) (hs : s.size ≤ 1048576) :
    Calls Tryd.prog 69 #[.string s] w fun e w' => ∃ u, e = .returned u ∧ Own oI w.heap.size w'.heap.size w' [u] (vals s.data.toList) ∧ Below w.heap.size w w' := by
  have hb0 : Below w.heap.size w w := Below.refl _ _
  have hl : s.data.toList.length = s.size := by simp
  go_enter Tryd.func69, Tryd.ntmps69
  obtain ⟨w1, hw1⟩ : ∃ W, W = w.alloc (.cells #[] 3) := ⟨_, rfl⟩
  have z1 : Below w.heap.size w w1 := by rw [hw1]; exact (Below.refl _ _).alloc (Nat.le_refl _) _
  have s1 : w1.heap.size = w.heap.size + 1 := by rw [hw1]; simp
  have hb1 := on hb0 z1
  have he : ∀ S, Acc 3 O.int w.heap.size S w1.heap.size w1 (.slice (some ⟨w.heap.size, 0, none⟩) 0 0) [] := fun S => by rw [hw1]; exact Acc.empty (by omega) (by first | (simp; done) | (simp; omega))
  go_wp2_with fail
  rw [← hw1]
  clear hw1
  go_loopw [3, 4] (fun v k wr => ∃ j : Nat, j ≤ s.size ∧ k = .int .i64 j ∧ Acc 3 O.int w.heap.size w1.heap.size wr.heap.size wr v (vals (s.data.toList.take j)) ∧ Turn w.heap.size (w.heap.size + 1) w1 wr) (fun _ k _ => s.size - (intOf k).toNat)
  case atStart => exact ⟨0, Nat.zero_le _, rfl, (he _).wide (Nat.le_refl _) (by omega), turn_refl _ _ _⟩
  case round =>
    obtain ⟨j, hj, rfl, hacc, hdr⟩ := hrel
    have hlc := hdr
    clear he
    have s2 := hdr.size
    have hb2 := hb1.trans ((hdr.below (by omega)).mono (by omega))
    by_cases hlt : j < s.size
    · have HS := Lib.hid (vals_snoc (str_at hlt))
      have hdl := vals_len (s.data.toList.take j)
      have h3 := List.length_take_le j s.data.toList
      have h9 := (s[j]).toNat_lt
      have e8 : wrap64 (s[j].toNat : Int) = (s[j].toNat : Int) := by unfold wrap64; omega
      have e9 : wrap64 ((s[j].toNat : Int) - 48) = (s[j].toNat : Int) - 48 := by unfold wrap64; omega
      obtain ⟨va, vn, vc, rfl⟩ := hacc.form3
      go_wp2_with (at_builtin; refine wpList_accI _ _ _ _ _ hacc hlc rfl (by omega) (Nat.le_refl _) ⟨by omega, by omega⟩ (by omega) rfl rfl rfl rfl rfl ?_; intro v' w1 hacc' ht' hsz')
      rw [← HS.out] at hacc'
      go_roundw
      case rel => exact ⟨j + 1, by omega, by go_num, hacc', ht'⟩
      case measure => simp [intOf]; omega
    · have HE : Hid (vals (s.data.toList.take j) = vals s.data.toList) := Lib.hid (by rw [List.take_of_length_le (by omega)])
      obtain ⟨va, vn, vc, rfl⟩ := hacc.form3
      rw [HE.out] at hacc
      have HA := Lib.hid hacc
      clear hacc
      go_wp2_with fail
      go_ret
      exact ⟨_, rfl, HA.out.own (Nat.le_refl _) (by omega) (Nat.le_refl _), hb2⟩

set_option maxRecDepth 100000 in
set_option maxHeartbeats 2000000 in
theorem digitsOf_any (s : ByteArray) (w : World) (hs : s.size ≤ 1048576) :
    Calls Tryd.prog 71 #[.string s] w fun e w' => ∃ u b, e = .returned (.tuple #[u, .bool b]) ∧ Own oI w.heap.size w'.heap.size w' [u] (digs? s.data.toList) ∧ Below w.heap.size w w' := by
  have hb0 : Below w.heap.size w w := Below.refl _ _
  have hl : s.data.toList.length = s.size := by simp
  go_enter Tryd.func71, Tryd.ntmps71
  obtain ⟨w1, hw1⟩ : ∃ W, W = w.alloc (.cells #[] 3) := ⟨_, rfl⟩
  have z1 : Below w.heap.size w w1 := by rw [hw1]; exact (Below.refl _ _).alloc (Nat.le_refl _) _
  have s1 : w1.heap.size = w.heap.size + 1 := by rw [hw1]; simp
  have hb1 := on hb0 z1
  have he : ∀ S, Acc 3 O.int w.heap.size S w1.heap.size w1 (.slice (some ⟨w.heap.size, 0, none⟩) 0 0) [] := fun S => by rw [hw1]; exact Acc.empty (by omega) (by first | (simp; done) | (simp; omega))
  go_wp2_with fail
  rw [← hw1]
  clear hw1
  go_loopw [4, 5] (fun v k wr => ∃ j : Nat, j ≤ s.size ∧ k = .int .i64 j ∧ Hid (∀ (i : Nat) (b : UInt8), i < j → s.data.toList[i]? = some b → digOk b = true) ∧ Acc 3 O.int w.heap.size w1.heap.size wr.heap.size wr v (vals (s.data.toList.take j)) ∧ Turn w.heap.size (w.heap.size + 1) w1 wr) (fun _ k _ => s.size - (intOf k).toNat)
  case atStart => exact ⟨0, Nat.zero_le _, rfl, Lib.hid (fun i b h => by omega), (he _).wide (Nat.le_refl _) (by omega), turn_refl _ _ _⟩
  case round =>
    obtain ⟨j, hj, rfl, hD, hacc, hdr⟩ := hrel
    have hlc := hdr
    clear he
    have s2 := hdr.size
    have hb2 := hb1.trans ((hdr.below (by omega)).mono (by omega))
    by_cases hlt : j < s.size
    · have HS := Lib.hid (vals_snoc (str_at hlt))
      have hdl := vals_len (s.data.toList.take j)
      have h3 := List.length_take_le j s.data.toList
      have h9 := (s[j]).toNat_lt
      have HI := Lib.hid (fun W => within_any (s[j].toNat : Int) 48 57 W)
      have hw9 : wrap64 (s[j].toNat : Int) = (s[j].toNat : Int) := by unfold wrap64; omega
      obtain ⟨b, hb⟩ : ∃ b, betw (s[j].toNat : Int) 48 57 = b := ⟨_, rfl⟩
      simp only [hb] at HI
      have HB := Lib.hid hb
      cases b with
      | false =>
        have HN := Lib.hid (digs_no (str_at hlt) HB.out)
        clear hb hacc HS
        go_wp2_with fail
        refine (HI.out _).mono ?_
        rintro e w' ⟨rfl, rfl⟩
        clear hw9
        go_wp2_with fail
        refine bodyPost_ret (v := .tuple #[.slice none 0 0, .bool false]) (by simp [results, Tryd.results71, go_sem]) rfl ⟨_, _, rfl, ?_, hb2⟩
        rw [HN.out]
        exact (own_nil_S (B := w.heap.size)).mono (Nat.le_refl _) (by omega)
      | true =>
        have hbt := hb
        simp only [betw, Bool.and_eq_true, decide_eq_true_eq] at hbt
        have e9 : wrap64 (IntKind.u8.wrap ((s[j].toNat : Int) - 48)) = (s[j].toNat : Int) - 48 := by
          have : IntKind.u8.wrap ((s[j].toNat : Int) - 48) = (s[j].toNat : Int) - 48 := by
            have hq : ∀ n : Int, 0 ≤ n → n ≤ 255 → IntKind.u8.wrap n = n := fun n h0 h1 => by simp [IntKind.wrap, IntKind.bits, IntKind.signed]; omega
            exact hq _ (by omega) (by omega)
          rw [this]
          unfold wrap64
          omega
        have HD := Lib.hid (show ∀ (i : Nat) (b : UInt8), i < j + 1 → s.data.toList[i]? = some b → digOk b = true from fun i b hi hg => by
          by_cases h : i < j
          · exact hD.out i b h hg
          · obtain rfl : i = j := by omega
            rw [str_at hlt] at hg
            obtain rfl := Option.some.inj hg
            exact HB.out)
        clear hb hD
        go_wp2_with fail
        refine (HI.out _).mono ?_
        rintro e w' ⟨rfl, rfl⟩
        clear hw9
        obtain ⟨va, vn, vc, rfl⟩ := hacc.form3
        go_wp2_with (at_builtin; refine wpList_accI _ _ _ _ _ hacc hlc rfl (by omega) (Nat.le_refl _) ⟨by omega, by omega⟩ (by omega) rfl rfl rfl rfl rfl ?_; intro v' w1 hacc' ht' hsz')
        rw [← HS.out] at hacc'
        go_roundw
        case rel => exact ⟨j + 1, by omega, by go_num, HD, hacc', ht'⟩
        case measure => simp [intOf]; omega
    · have HE : Hid (vals (s.data.toList.take j) = digs? s.data.toList) := Lib.hid (by
        rw [List.take_of_length_le (by omega), digs_yes]
        intro i b hg
        have : i < s.data.toList.length := by
          rcases Nat.lt_or_ge i s.data.toList.length with h | h
          · exact h
          · rw [List.getElem?_eq_none h] at hg; cases hg
        exact hD.out i b (by omega) hg)
      obtain ⟨va, vn, vc, rfl⟩ := hacc.form3
      rw [HE.out] at hacc
      have HA := Lib.hid hacc
      clear hacc
      go_wp2_with fail
      refine bodyPost_ret (v := .tuple #[.slice va vn vc, .bool true]) (by simp [results, Tryd.results71, go_sem]) rfl ⟨_, _, rfl, HA.out.own (Nat.le_refl _) (by omega) (Nat.le_refl _), hb2⟩

end Go.Proofs.YtigcagplbihenaaDoor

/- Plain: the dependency that a text says. -/
namespace Go.Proofs.YtigcagplbihenaaDoor
open Go.RowKit
set_option linter.unusedVariables false
set_option linter.unusedSimpArgs false

def rawDp (l : List UInt8) : DDp := (bs (l.take 1), vals ((l.drop 1).take (l.length - 3)), ((l.getD (l.length - 1) 0).toNat : Int) - 48)
def parDpL (l : List UInt8) : Option DDp := if 3 ≤ l.length ∧ l.length ≤ 5 ∧ fmtDp (rawDp l) = l then some (rawDp l) else none
def parDp (s : ByteArray) : Option DDp := parDpL s.data.toList
def zeroDp : DDp := (ByteArray.mk #[], [], 0)

theorem cols_two {xs : List Int} {t : Int} (h : colsB 3 xs = true) (ht : betw t 0 2 = true) (hn : has xs t = false) : xs.length ≤ 2 := by
  match xs with
  | [] => simp
  | [a] => simp
  | [a, b] => simp
  | a :: b :: c :: r =>
    exfalso
    simp only [colsB, colsFrom, betw, has, Bool.and_eq_true, decide_eq_true_eq, decide_eq_false_iff_not, List.mem_cons, not_or] at h ht hn
    omega
theorem vals_digs {xs : List Int} (h : ∀ x ∈ xs, 0 ≤ x ∧ x ≤ 9) : vals (digsOf xs) = xs := by
  induction xs with
  | nil => rfl
  | cons x r ih =>
    have hx := h x (by simp)
    obtain ⟨d, rfl⟩ := Int.eq_ofNat_of_zero_le hx.1
    have hd := chD_nat (show d ≤ 9 by omega)
    have := ih (fun y hy => h y (by simp [hy]))
    simp only [vals, digsOf, List.map_cons, List.map_map] at this ⊢
    rw [this, hd]
    congr 1
    omega
/-- The parts of a text that is one. -/
theorem dp_parts {x : DDp} (h : okDp x = true) : ∃ c : UInt8, c ≠ 62 ∧ x.1 = bs [c] ∧ x.2.1.length ≤ 2 ∧ (∀ y ∈ x.2.1, 0 ≤ y ∧ y ≤ 9) ∧ (0 ≤ x.2.2 ∧ x.2.2 ≤ 9) ∧ fmtDp x = [c] ++ digsOf x.2.1 ++ [62] ++ [chD x.2.2] := by
  have hf : fmtDp x = x.1.data.toList ++ digsOf x.2.1 ++ [62] ++ [chD x.2.2] := by rw [fmtDp, if_pos h]
  simp only [okDp, Bool.and_eq_true, Bool.not_eq_true'] at h
  obtain ⟨h1, h2, h3, h4⟩ := h
  obtain ⟨ml, hm⟩ : ∃ ml, x.1 = bs ml := ⟨_, (bs_of' x.1).symm⟩
  rw [hm] at h1
  have hl := name_len' h1
  match ml, hl with
  | [c], _ =>
    refine ⟨c, ?_, hm, cols_two h2 h3 h4, fun y hy => by have := cols_range h2 y hy; omega, by simp only [betw, Bool.and_eq_true, decide_eq_true_eq] at h3; omega, by rw [hf, hm]⟩
    intro e
    subst e
    exact absurd h1 (by decide +kernel)
theorem dp_raw {x : DDp} (h : okDp x = true) : 3 ≤ (fmtDp x).length ∧ (fmtDp x).length ≤ 5 ∧ rawDp (fmtDp x) = x := by
  obtain ⟨c, _, h1, h2, h3, h4, h5⟩ := dp_parts h
  have hd := digsOf_len x.2.1
  have hlen : (fmtDp x).length = x.2.1.length + 3 := by rw [h5]; simp [hd]
  refine ⟨by omega, by omega, ?_⟩
  obtain ⟨d, hd4⟩ := Int.eq_ofNat_of_zero_le h4.1
  have hq := chD_nat (show d ≤ 9 by omega)
  unfold rawDp
  rw [hlen, h5]
  have e1 : ([c] ++ digsOf x.2.1 ++ [62] ++ [chD x.2.2]).take 1 = [c] := by simp
  have e2 : (([c] ++ digsOf x.2.1 ++ [62] ++ [chD x.2.2]).drop 1).take (x.2.1.length + 3 - 3) = digsOf x.2.1 := by
    have e0 : ([c] ++ digsOf x.2.1 ++ [62] ++ [chD x.2.2]).drop 1 = digsOf x.2.1 ++ [62, chD x.2.2] := by simp
    rw [e0, show x.2.1.length + 3 - 3 = (digsOf x.2.1).length by omega, List.take_left]
  have e3 : ([c] ++ digsOf x.2.1 ++ [62] ++ [chD x.2.2]).getD (x.2.1.length + 3 - 1) 0 = chD x.2.2 := by
    rw [List.getD_eq_getElem?_getD, List.getElem?_append_right (by simp [hd])]
    simp [hd]
  rw [e1, e2, e3, vals_digs h3, ← h1, hd4, hq]
  have : (48 + (d : Int)) - 48 = x.2.2 := by omega
  rw [this]
theorem index_sep {a b : List UInt8} (h : (62 : UInt8) ∉ a) : Lib.index (a ++ 62 :: b) [62] = a.length := by
  induction a with
  | nil => simp [Lib.index, List.isPrefixOf]
  | cons x r ih =>
    have hx : x ≠ 62 := fun e => h (by simp [e])
    have := ih (fun hm => h (by simp [hm]))
    have hp : List.isPrefixOf [(62 : UInt8)] (x :: (r ++ 62 :: b)) = false := by
      simp [List.isPrefixOf, Ne.symm hx]
    show Lib.index (x :: (r ++ 62 :: b)) [62] = _
    unfold Lib.index
    rw [hp, this]
    have hne : ((r.length : Int) == -1) = false := by rw [beq_eq_false_iff_ne]; omega
    simp [hne]
theorem cut_sep {a b : List UInt8} (h : (62 : UInt8) ∉ a) : Lib.cut (a ++ 62 :: b) [62] = (a, b, true) := by
  unfold Lib.cut
  rw [index_sep h, if_pos (by omega)]
  simp
theorem digs_no62 {xs : List Int} (h : ∀ x ∈ xs, 0 ≤ x ∧ x ≤ 9) : (62 : UInt8) ∉ digsOf xs := by
  intro hm
  simp only [digsOf, List.mem_map] at hm
  obtain ⟨x, hx, e⟩ := hm
  have := h x hx
  obtain ⟨d, rfl⟩ := Int.eq_ofNat_of_zero_le this.1
  have hq := chD_nat (show d ≤ 9 by omega)
  rw [e] at hq
  have : ((62 : UInt8).toNat : Int) = 62 := rfl
  omega
theorem digs_back {xs : List Int} (h : ∀ x ∈ xs, 0 ≤ x ∧ x ≤ 9) : digs? (digsOf xs) = xs := by
  rw [digs_yes, vals_digs h]
  intro j b hb
  have hm := List.mem_of_getElem? hb
  simp only [digsOf, List.mem_map] at hm
  obtain ⟨x, hx, rfl⟩ := hm
  have := h x hx
  obtain ⟨d, rfl⟩ := Int.eq_ofNat_of_zero_le this.1
  have hq := chD_nat (show d ≤ 9 by omega)
  simp only [digOk, betw, Bool.and_eq_true, decide_eq_true_eq]
  omega
/-- What the program makes of a text's two parts. -/
def cutDp (a b : List UInt8) : DDp := (bs (a.take 1), digs? (a.drop 1), ((b.getD 0 0).toNat : Int) - 48)
theorem fmt_ok {x : DDp} (h : fmtDp x ≠ []) : okDp x = true := by
  by_cases ho : okDp x = true
  · exact ho
  · exact absurd (by rw [fmtDp, if_neg ho]) h
theorem par_some {l : List UInt8} {x : DDp} (h : parDpL l = some x) : okDp x = true ∧ fmtDp x = l := by
  unfold parDpL at h
  split at h
  · rename_i hc
    obtain rfl := Option.some.inj h
    refine ⟨fmt_ok ?_, hc.2.2⟩
    rw [hc.2.2]
    intro e
    rw [e] at hc
    simp at hc
  · cases h
theorem par_of {x : DDp} (h : okDp x = true) : parDpL (fmtDp x) = some x := by
  obtain ⟨h1, h2, h3⟩ := dp_raw h
  unfold parDpL
  rw [if_pos ⟨h1, h2, by rw [h3]⟩, h3]
theorem cut_some {l : List UInt8} {x : DDp} (h : parDpL l = some x) : (Lib.cut l [62]).1 ≠ [] ∧ (Lib.cut l [62]).2.1.length = 1 ∧ cutDp (Lib.cut l [62]).1 (Lib.cut l [62]).2.1 = x := by
  obtain ⟨ho, rfl⟩ := par_some h
  obtain ⟨c, hc, h1, h2, h3, h4, h5⟩ := dp_parts ho
  have e : fmtDp x = ([c] ++ digsOf x.2.1) ++ 62 :: [chD x.2.2] := by rw [h5]; simp
  have hno : (62 : UInt8) ∉ [c] ++ digsOf x.2.1 := by
    intro hm
    rcases List.mem_append.1 hm with hm | hm
    · simp at hm; exact hc hm.symm
    · exact digs_no62 h3 hm
  rw [e, cut_sep hno]
  obtain ⟨d, hd4⟩ := Int.eq_ofNat_of_zero_le h4.1
  have hq := chD_nat (show d ≤ 9 by omega)
  refine ⟨by simp, rfl, ?_⟩
  show (bs (([c] ++ digsOf x.2.1).take 1), digs? (([c] ++ digsOf x.2.1).drop 1), (((([chD x.2.2] : List UInt8)).getD 0 0).toNat : Int) - 48) = x
  have e1 : ([c] ++ digsOf x.2.1).take 1 = [c] := by simp
  have e2 : ([c] ++ digsOf x.2.1).drop 1 = digsOf x.2.1 := by simp
  have e3 : (([chD x.2.2] : List UInt8)).getD 0 0 = chD x.2.2 := rfl
  rw [e1, e2, e3, digs_back h3, ← h1, hd4, hq]
  have : (48 + (d : Int)) - 48 = x.2.2 := by omega
  rw [this]
/-- The program's way: it gives none, or what the reference gives. -/
theorem par_early {l : List UInt8} (h : (Lib.cut l [62]).1 = [] ∨ (Lib.cut l [62]).2.1.length ≠ 1) : parDpL l = none := by
  cases hp : parDpL l with
  | none => rfl
  | some x =>
    obtain ⟨h1, h2, _⟩ := cut_some hp
    rcases h with h | h
    · exact absurd h h1
    · exact absurd h2 h
theorem par_late {l : List UInt8} (h : (Lib.cut l [62]).1 ≠ []) : parDpL l = if fmtDp (cutDp (Lib.cut l [62]).1 (Lib.cut l [62]).2.1) = l then some (cutDp (Lib.cut l [62]).1 (Lib.cut l [62]).2.1) else none := by
  split
  · rename_i he
    have hne : l ≠ [] := by
      intro e
      subst e
      exact h rfl
    have ho := fmt_ok (x := cutDp (Lib.cut l [62]).1 (Lib.cut l [62]).2.1) (by rw [he]; exact hne)
    have := par_of ho
    rwa [he] at this
  · rename_i he
    cases hp : parDpL l with
    | none => rfl
    | some x =>
      obtain ⟨h1, h2, h3⟩ := cut_some hp
      obtain ⟨_, h4⟩ := par_some hp
      rw [h3] at he
      exact absurd h4 he

end Go.Proofs.YtigcagplbihenaaDoor

/- Contracts: dependencies out of texts, the reference's way. Written by a program. -/
namespace Go.Proofs.YtigcagplbihenaaDoor
open Go.RowKit
set_option linter.unusedVariables false
set_option linter.unusedSimpArgs false
set_option synthInstance.maxSize 2000
set_option synthInstance.maxHeartbeats 400000

theorem cell_setD {W : World} {p q : Addr} {u v : Value} (h : W.cell? q = some v) (hne : q.block ≠ p.block) : (W.setCell p u).cell? q = some v :=
  (World.cell?_of_block (a := q) (Below.heap_setCell _ _ _ _ hne)).trans h

set_option maxRecDepth 100000 in
set_option maxHeartbeats 4000000 in
theorem parDp_spec3 (b0 b1 b2 : UInt8) (w : World) :
    Calls Tryd.prog 22 #[.string (ByteArray.mk #[b0, b1, b2])] w fun e w' => ∃ cs, e = .returned (.tuple #[.agg cs.toArray, .bool (parDpL [b0, b1, b2]).isSome]) ∧ Own oDp w.heap.size w'.heap.size w' cs ((parDpL [b0, b1, b2]).getD zeroDp) ∧ Below w.heap.size w w' := by
  have HP : Hid (parDpL [b0, b1, b2] = if fmtDp (bs [b0], vals [], (b2.toNat : Int) - 48) = [b0, b1, b2] then some (bs [b0], vals [], (b2.toNat : Int) - 48) else none) := Lib.hid (by
    show (if _ then _ else _) = _
    simp [rawDp])
  obtain ⟨P, hP⟩ : ∃ P, parDpL [b0, b1, b2] = P := ⟨_, rfl⟩
  rw [hP] at HP ⊢
  clear hP
  have HV : Hid (∀ W, Calls Tryd.prog 69 #[.string (bs [])] W fun e w' => ∃ u, e = .returned u ∧ Own oI W.heap.size w'.heap.size w' [u] (vals []) ∧ Below W.heap.size W w') := Lib.hid (fun W => l4Values_any (bs []) W (by simp [bs_size]))
  go_enter Tryd.func22, Tryd.ntmps22
  obtain ⟨w1, hw1⟩ : ∃ W, W = w.alloc (.cells #[.string (ByteArray.mk #[]), .slice none 0 0, .int .i64 0] 38) := ⟨_, rfl⟩
  have hb1 : Below w.heap.size w w1 := by rw [hw1]; exact (Below.refl _ _).alloc (Nat.le_refl _) _
  have s1 : w1.heap.size = w.heap.size + 1 := by rw [hw1]; simp
  have r_0 : w1.cell? ⟨w.heap.size, 0, none⟩ = some (.string (ByteArray.mk #[])) := by rw [hw1]; exact box_cell (Below.refl _ _) rfl
  have r_1 : w1.cell? ⟨w.heap.size, 1, none⟩ = some (.slice none 0 0) := by rw [hw1]; exact box_cell (Below.refl _ _) rfl
  have r_2 : w1.cell? ⟨w.heap.size, 2, none⟩ = some (.int .i64 0) := by rw [hw1]; exact box_cell (Below.refl _ _) rfl
  have f_0 : w1.frozen? ⟨w.heap.size, 0, none⟩ = false := by rw [hw1]; exact box_frozen (Below.refl _ _)
  have f_1 : w1.frozen? ⟨w.heap.size, 1, none⟩ = false := by rw [hw1]; exact box_frozen (Below.refl _ _)
  have f_2 : w1.frozen? ⟨w.heap.size, 2, none⟩ = false := by rw [hw1]; exact box_frozen (Below.refl _ _)
  go_wp2_with fail
  rw [← hw1]
  clear hw1
  have h9 := b2.toNat_lt
  have e8 : wrap64 (b2.toNat : Int) = (b2.toNat : Int) := by unfold wrap64; omega
  have e9 : wrap64 ((b2.toNat : Int) - 48) = (b2.toNat : Int) - 48 := by unfold wrap64; omega
  have e8q : IntKind.i64.wrap (b2.toNat : Int) = (b2.toNat : Int) := IntWalk.i64_in _ (by omega)
  have e9q : IntKind.i64.wrap ((b2.toNat : Int) - 48) = (b2.toNat : Int) - 48 := IntWalk.i64_in _ (by omega)
  refine wp_region_noPanic ?_
  refine wp_region_held_drew (S := (fun W => True)) (by kernel_rfl) ?hS2 (fun hHeld => ?_)
  case hS2 => trivial
  refine wpAnyH_take (i := 0) (v := ?v0d3) rfl (by kernel_rfl) (by kernel_rfl) (by kernel_rfl) (fun _ _ _ h => h) (Or.inl ⟨by rfl, ?hy0d3⟩) (by assumption) ?rest0d3
  case hy0d3 => intro w hSw; (try dsimp only at hSw); go_simp; (try (first | (with_reducible rfl) | rfl | exact e8q | exact e9q))
  try simp only [Act.put, List.getElem_toArray, List.getElem_cons_succ, List.getElem_cons_zero, List.setIfInBounds_toArray, List.set_cons_zero, List.set_cons_succ]
  refine wpAnyH_take (i := 1) (v := .string (bs [b0])) rfl (by kernel_rfl) (by kernel_rfl) (by kernel_rfl) (fun _ _ _ h => h) (Or.inl ⟨by rfl, ?hy1d3⟩) (by assumption) ?rest1d3
  case hy1d3 => intro w hSw; (try dsimp only at hSw); go_simp; (try (first | (with_reducible rfl) | rfl | exact e8q | exact e9q))
  try simp only [Act.put, List.getElem_toArray, List.getElem_cons_succ, List.getElem_cons_zero, List.setIfInBounds_toArray, List.set_cons_zero, List.set_cons_succ]
  refine wpAnyH_take (i := 2) (v := ?v2d3) rfl (by kernel_rfl) (by kernel_rfl) (by kernel_rfl) (fun _ _ _ h => h) (Or.inl ⟨by rfl, ?hy2d3⟩) (by assumption) ?rest2d3
  case hy2d3 => intro w hSw; (try dsimp only at hSw); go_simp; (try (first | (with_reducible rfl) | rfl | exact e8q | exact e9q))
  try simp only [Act.put, List.getElem_toArray, List.getElem_cons_succ, List.getElem_cons_zero, List.setIfInBounds_toArray, List.set_cons_zero, List.set_cons_succ]
  refine wpAnyH_take (i := 3) (v := ?v3d3) rfl (by kernel_rfl) (by kernel_rfl) (by kernel_rfl) (fun _ _ _ h => h) (Or.inl ⟨by rfl, ?hy3d3⟩) (by assumption) ?rest3d3
  case hy3d3 => intro w hSw; (try dsimp only at hSw); go_simp; (try (first | (with_reducible rfl) | rfl | exact e8q | exact e9q))
  try simp only [Act.put, List.getElem_toArray, List.getElem_cons_succ, List.getElem_cons_zero, List.setIfInBounds_toArray, List.set_cons_zero, List.set_cons_succ]
  refine wpAnyH_take (i := 4) (v := ?v4d3) rfl (by kernel_rfl) (by kernel_rfl) (by kernel_rfl) (fun _ _ _ h => h) (Or.inl ⟨by rfl, ?hy4d3⟩) (by assumption) ?rest4d3
  case hy4d3 => intro w hSw; (try dsimp only at hSw); go_simp; (try (first | (with_reducible rfl) | rfl | exact e8q | exact e9q))
  try simp only [Act.put, List.getElem_toArray, List.getElem_cons_succ, List.getElem_cons_zero, List.setIfInBounds_toArray, List.set_cons_zero, List.set_cons_succ]
  refine wpAnyH_take (i := 5) (v := ?v5d3) rfl (by kernel_rfl) (by kernel_rfl) (by kernel_rfl) (fun _ _ _ h => h) (Or.inl ⟨by rfl, ?hy5d3⟩) (by assumption) ?rest5d3
  case hy5d3 => intro w hSw; (try dsimp only at hSw); go_simp; (try (first | (with_reducible rfl) | rfl | exact e8q | exact e9q))
  try simp only [Act.put, List.getElem_toArray, List.getElem_cons_succ, List.getElem_cons_zero, List.setIfInBounds_toArray, List.set_cons_zero, List.set_cons_succ]
  refine wpAnyH_take (i := 6) (v := .string (bs [])) rfl (by kernel_rfl) (by kernel_rfl) (by kernel_rfl) (fun _ _ _ h => h) (Or.inl ⟨by rfl, ?hy6d3⟩) (by assumption) ?rest6d3
  case hy6d3 => intro w hSw; (try dsimp only at hSw); go_simp; (try (first | (with_reducible rfl) | rfl | exact e8q | exact e9q))
  try simp only [Act.put, List.getElem_toArray, List.getElem_cons_succ, List.getElem_cons_zero, List.setIfInBounds_toArray, List.set_cons_zero, List.set_cons_succ]
  refine wpAnyH_take (i := 8) (v := ?v8d3) rfl (by kernel_rfl) (by kernel_rfl) (by kernel_rfl) (fun _ _ _ h => h) (Or.inl ⟨by rfl, ?hy8d3⟩) (by assumption) ?rest8d3
  case hy8d3 => intro w hSw; (try dsimp only at hSw); go_simp; (try (first | (with_reducible rfl) | rfl | exact e8q | exact e9q))
  try simp only [Act.put, List.getElem_toArray, List.getElem_cons_succ, List.getElem_cons_zero, List.setIfInBounds_toArray, List.set_cons_zero, List.set_cons_succ]
  refine wpAnyH_take (i := 9) (v := ?v9d3) rfl (by kernel_rfl) (by kernel_rfl) (by kernel_rfl) (fun _ _ _ h => h) (Or.inl ⟨by rfl, ?hy9d3⟩) (by assumption) ?rest9d3
  case hy9d3 => intro w hSw; (try dsimp only at hSw); go_simp; (try (first | (with_reducible rfl) | rfl | exact e8q | exact e9q))
  try simp only [Act.put, List.getElem_toArray, List.getElem_cons_succ, List.getElem_cons_zero, List.setIfInBounds_toArray, List.set_cons_zero, List.set_cons_succ]
  refine wpAnyH_take (i := 10) (v := ?v10d3) rfl (by kernel_rfl) (by kernel_rfl) (by kernel_rfl) (fun _ _ _ h => h) (Or.inl ⟨by rfl, ?hy10d3⟩) (by assumption) ?rest10d3
  case hy10d3 => intro w hSw; (try dsimp only at hSw); go_simp; (try (first | (with_reducible rfl) | rfl | exact e8q | exact e9q))
  try simp only [Act.put, List.getElem_toArray, List.getElem_cons_succ, List.getElem_cons_zero, List.setIfInBounds_toArray, List.set_cons_zero, List.set_cons_succ]
  refine wpAnyH_take (i := 11) (v := ?v11d3) rfl (by kernel_rfl) (by kernel_rfl) (by kernel_rfl) (fun _ _ _ h => h) (Or.inl ⟨by rfl, ?hy11d3⟩) (by assumption) ?rest11d3
  case hy11d3 => intro w hSw; (try dsimp only at hSw); go_simp; (try (first | (with_reducible rfl) | rfl | exact e8q | exact e9q))
  try simp only [Act.put, List.getElem_toArray, List.getElem_cons_succ, List.getElem_cons_zero, List.setIfInBounds_toArray, List.set_cons_zero, List.set_cons_succ]
  refine wpAnyH_take (i := 12) (v := .int .u8 (b2.toNat : Int)) rfl (by kernel_rfl) (by kernel_rfl) (by kernel_rfl) (fun _ _ _ h => h) (Or.inl ⟨by rfl, ?hy12d3⟩) (by assumption) ?rest12d3
  case hy12d3 => intro w hSw; (try dsimp only at hSw); go_simp; (try (first | (with_reducible rfl) | rfl | exact e8q | exact e9q))
  try simp only [Act.put, List.getElem_toArray, List.getElem_cons_succ, List.getElem_cons_zero, List.setIfInBounds_toArray, List.set_cons_zero, List.set_cons_succ]
  refine wpAnyH_take (i := 13) (v := .int .i64 (b2.toNat : Int)) rfl (by kernel_rfl) (by kernel_rfl) (by kernel_rfl) (fun _ _ _ h => h) (Or.inl ⟨by rfl, ?hy13d3⟩) (by assumption) ?rest13d3
  case hy13d3 => intro w hSw; (try dsimp only at hSw); go_simp; (try (first | (with_reducible rfl) | rfl | exact e8q | exact e9q))
  try simp only [Act.put, List.getElem_toArray, List.getElem_cons_succ, List.getElem_cons_zero, List.setIfInBounds_toArray, List.set_cons_zero, List.set_cons_succ]
  refine wpAnyH_take (i := 14) (v := .int .i64 ((b2.toNat : Int) - 48)) rfl (by kernel_rfl) (by kernel_rfl) (by kernel_rfl) (fun _ _ _ h => h) (Or.inl ⟨by rfl, ?hy14d3⟩) (by assumption) ?rest14d3
  case hy14d3 => intro w hSw; (try dsimp only at hSw); go_simp; (try (first | (with_reducible rfl) | rfl | exact e8q | exact e9q))
  try simp only [Act.put, List.getElem_toArray, List.getElem_cons_succ, List.getElem_cons_zero, List.setIfInBounds_toArray, List.set_cons_zero, List.set_cons_succ]
  refine wpAnyH_ready (rs := [7, 16]) (by kernel_rfl) (by simp) ?_
  refine AllReadyH.cons rfl (fun K hK => ?_) (AllReadyH.cons rfl (fun K hK => ?_) AllReadyH.nil)
  · skip
    go_simp
    refine (HV.out _).mono ?_
    rintro e wA ⟨u, rfl, oA, zA⟩
    obtain ⟨ub, un, uc, rfl⟩ := oI_form1 oA
    replace zA : Below w1.heap.size w1 wA := on (Below.refl _ _).drew zA
    have sA := zA.size
    refine hK.out _ _ ?_ (fun hHeld => ?_)
    · trivial
    clear hK K
    try simp only [Act.put, List.getElem_toArray, List.getElem_cons_succ, List.getElem_cons_zero, List.setIfInBounds_toArray, List.set_cons_zero, List.set_cons_succ]
    refine wpAnyH_take (i := 15) (v := ?v15a3) rfl (by kernel_rfl) (by kernel_rfl) (by kernel_rfl) (fun _ _ _ h => h) (Or.inl ⟨by rfl, ?hy15a3⟩) (by assumption) ?rest15a3
    case hy15a3 => intro w hSw; (try dsimp only at hSw); go_simp; (try (first | (with_reducible rfl) | rfl | exact e8q | exact e9q))
    try simp only [Act.put, List.getElem_toArray, List.getElem_cons_succ, List.getElem_cons_zero, List.setIfInBounds_toArray, List.set_cons_zero, List.set_cons_succ]
    refine wpAnyH_ready (rs := [16]) (by kernel_rfl) (by simp) ?_
    refine AllReadyH.cons rfl (fun K hK => ?_) AllReadyH.nil
    go_simp
    obtain ⟨wX, hX⟩ : ∃ W, W = wA.alloc (.cells #[.string (ByteArray.mk #[]), .slice none 0 0, .int .i64 0] 38) := ⟨_, rfl⟩
    have n_0 : wX.cell? ⟨wA.heap.size, 0, none⟩ = some (.string (ByteArray.mk #[])) := by rw [hX]; show (World.alloc wA _).cell? ⟨wA.heap.size, 0, none⟩ = _; exact box_cell (Below.refl _ _) rfl
    have n_1 : wX.cell? ⟨wA.heap.size, 1, none⟩ = some (.slice none 0 0) := by rw [hX]; show (World.alloc wA _).cell? ⟨wA.heap.size, 1, none⟩ = _; exact box_cell (Below.refl _ _) rfl
    have n_2 : wX.cell? ⟨wA.heap.size, 2, none⟩ = some (.int .i64 0) := by rw [hX]; show (World.alloc wA _).cell? ⟨wA.heap.size, 2, none⟩ = _; exact box_cell (Below.refl _ _) rfl
    have n_f0 : wX.frozen? ⟨wA.heap.size, 0, none⟩ = false := by rw [hX]; show (World.alloc wA _).frozen? ⟨wA.heap.size, 0, none⟩ = _; exact box_frozen (Below.refl _ _)
    have n_f1 : wX.frozen? ⟨wA.heap.size, 1, none⟩ = false := by rw [hX]; show (World.alloc wA _).frozen? ⟨wA.heap.size, 1, none⟩ = _; exact box_frozen (Below.refl _ _)
    have n_f2 : wX.frozen? ⟨wA.heap.size, 2, none⟩ = false := by rw [hX]; show (World.alloc wA _).frozen? ⟨wA.heap.size, 2, none⟩ = _; exact box_frozen (Below.refl _ _)
    have zX : Below wA.heap.size wA wX := by rw [hX]; exact (Below.refl _ _).alloc (Nat.le_refl _) _
    have zXq : wX.heap.size = wA.heap.size + 1 := by rw [hX]; simp
    rw [← hX]
    clear hX
    refine hK.out _ _ ?_ (fun hHeld => ?_)
    · trivial
    clear hK K
    try simp only [Act.put, List.getElem_toArray, List.getElem_cons_succ, List.getElem_cons_zero, List.setIfInBounds_toArray, List.set_cons_zero, List.set_cons_succ]
    have k_0 := ((on zA zX).cell (p := ⟨w.heap.size, 0, none⟩) (by simp only []; omega)).trans r_0
    have k_1 := ((on zA zX).cell (p := ⟨w.heap.size, 1, none⟩) (by simp only []; omega)).trans r_1
    have k_2 := ((on zA zX).cell (p := ⟨w.heap.size, 2, none⟩) (by simp only []; omega)).trans r_2
    have k_f0 := ((on zA zX).frozen (p := ⟨w.heap.size, 0, none⟩) (by simp only []; omega)).trans f_0
    have k_f1 := ((on zA zX).frozen (p := ⟨w.heap.size, 1, none⟩) (by simp only []; omega)).trans f_1
    have k_f2 := ((on zA zX).frozen (p := ⟨w.heap.size, 2, none⟩) (by simp only []; omega)).trans f_2
    have hbY := on (on hb1 zA) zX
    refine wpAnyH_ready (rs := [17]) (by kernel_rfl) (by simp) ?_
    refine AllReadyH.cons rfl (fun K hK => ?_) AllReadyH.nil
    go_simp
    obtain ⟨Wf, hWf⟩ : ∃ W, W = ((wX.setCell ⟨wA.heap.size, 0, none⟩ (.string (bs [b0]))).setCell ⟨wA.heap.size, 1, none⟩ (.slice ub un uc)).setCell ⟨wA.heap.size, 2, none⟩ (.int .i64 ((b2.toNat : Int) - 48)) := ⟨_, rfl⟩
    rw [← hWf]
    refine hK.out _ _ ?_ (fun hHeld => ?_)
    · trivial
    clear hK K
    try simp only [Act.put, List.getElem_toArray, List.getElem_cons_succ, List.getElem_cons_zero, List.setIfInBounds_toArray, List.set_cons_zero, List.set_cons_succ]
    refine wpAnyH_done (by kernel_rfl) ?_ _
    refine NoPanic.normal ?_
    have x_0 : Wf.cell? ⟨wA.heap.size, 0, none⟩ = some (.string (bs [b0])) := by rw [hWf]; simp [go_sem, n_0, n_1, n_2]
    have x_1 : Wf.cell? ⟨wA.heap.size, 1, none⟩ = some (.slice ub un uc) := by rw [hWf]; simp [go_sem, n_0, n_1, n_2]
    have x_2 : Wf.cell? ⟨wA.heap.size, 2, none⟩ = some (.int .i64 ((b2.toNat : Int) - 48)) := by rw [hWf]; simp [go_sem, n_0, n_1, n_2]
    replace k_0 : Wf.cell? ⟨w.heap.size, 0, none⟩ = some (.string (ByteArray.mk #[])) := by rw [hWf]; exact cell_setD (cell_setD (cell_setD k_0 (by simp only []; omega)) (by simp only []; omega)) (by simp only []; omega)
    replace k_1 : Wf.cell? ⟨w.heap.size, 1, none⟩ = some (.slice none 0 0) := by rw [hWf]; exact cell_setD (cell_setD (cell_setD k_1 (by simp only []; omega)) (by simp only []; omega)) (by simp only []; omega)
    replace k_2 : Wf.cell? ⟨w.heap.size, 2, none⟩ = some (.int .i64 0) := by rw [hWf]; exact cell_setD (cell_setD (cell_setD k_2 (by simp only []; omega)) (by simp only []; omega)) (by simp only []; omega)
    replace k_f0 : Wf.frozen? ⟨w.heap.size, 0, none⟩ = false := by rw [hWf]; simp [go_sem, k_f0]
    replace k_f1 : Wf.frozen? ⟨w.heap.size, 1, none⟩ = false := by rw [hWf]; simp [go_sem, k_f1]
    replace k_f2 : Wf.frozen? ⟨w.heap.size, 2, none⟩ = false := by rw [hWf]; simp [go_sem, k_f2]
    have sf : Wf.heap.size = wX.heap.size := by rw [hWf]; simp [World.setCell]
    have hbF : Below w.heap.size w Wf := by
      rw [hWf]
      repeat (refine Below.setCell ?_ (by simp only []; omega) _)
      exact hbY
    have oF : Own oI (w.heap.size + 1) Wf.heap.size Wf [.slice ub un uc] (vals []) := by
      have zF : Below wA.heap.size wA Wf := by
        rw [hWf]
        repeat (refine Below.setCell ?_ (by simp only []; omega) _)
        exact zX
      refine (oA.below zF (Nat.le_refl _)).mono ?_ (by omega)
      show w.heap.size + 1 ≤ w1.heap.size
      omega
    clear hWf oA n_0 n_1 n_2 n_f0 n_f1 n_f2
    have HOF := Lib.hid oF
    clear oF e8 e9 e8q e9q
    go_wp2_with fail
    refine (fmtDp_spec _ (bs [b0], vals [], (b2.toNat : Int) - 48) _ (rDp_mk (by simp [bs_size]) (HOF.out.rd reads_I) (show I64 ((b2.toNat : Int) - 48) by unfold I64; omega)) (by simp [vals_len])).mono ?_
    rintro e w3 ⟨rfl, z3⟩
    have s3 := z3.size
    have hb3 := on hbF z3
    have o3 := HOF.out.below z3 (Nat.le_refl _)
    replace x_0 := (z3.cell (p := ⟨wA.heap.size, 0, none⟩) (by simp only []; omega)).trans x_0
    replace x_1 := (z3.cell (p := ⟨wA.heap.size, 1, none⟩) (by simp only []; omega)).trans x_1
    replace x_2 := (z3.cell (p := ⟨wA.heap.size, 2, none⟩) (by simp only []; omega)).trans x_2
    replace k_0 := (z3.cell (p := ⟨w.heap.size, 0, none⟩) (by simp only []; omega)).trans k_0
    replace k_1 := (z3.cell (p := ⟨w.heap.size, 1, none⟩) (by simp only []; omega)).trans k_1
    replace k_2 := (z3.cell (p := ⟨w.heap.size, 2, none⟩) (by simp only []; omega)).trans k_2
    replace k_f0 := (z3.frozen (p := ⟨w.heap.size, 0, none⟩) (by simp only []; omega)).trans k_f0
    replace k_f1 := (z3.frozen (p := ⟨w.heap.size, 1, none⟩) (by simp only []; omega)).trans k_f1
    replace k_f2 := (z3.frozen (p := ⟨w.heap.size, 2, none⟩) (by simp only []; omega)).trans k_f2
    obtain ⟨F, hF⟩ : ∃ F, fmtDp (bs [b0], vals [], (b2.toNat : Int) - 48) = F := ⟨_, rfl⟩
    simp only [hF] at HP ⊢
    clear hF
    have hI : I64 ((b2.toNat : Int) - 48) := by unfold I64; omega
    by_cases hq : F = [b0, b1, b2]
    · obtain rfl : P = some (bs [b0], vals [], (b2.toNat : Int) - 48) := by rw [HP.out, if_pos hq]
      subst hq
      have hB : bs [b0, b1, b2] = ByteArray.mk #[b0, b1, b2] := rfl
      rw [hB]
      have HO3 := Lib.hid o3
      clear HP hB o3 HOF HV
      go_wp2_with fail
      refine bodyPost_ret (v := .tuple #[.agg #[.string (bs [b0]), .slice ub un uc, .int .i64 ((b2.toNat : Int) - 48)], .bool true]) (by simp [results, Tryd.results22, go_sem, k_0, k_1, k_2, k_f0, k_f1, k_f2]) rfl ⟨[.string (bs [b0]), .slice ub un uc, .int .i64 ((b2.toNat : Int) - 48)], rfl, ?_, ?_⟩
      · refine Own.mono (lo := w.heap.size + 1) (hi := w3.heap.size) ?_ (by omega) (by simp [World.setCell])
        repeat (refine Own.setOut ?_ rfl (by simp only []; omega))
        exact oDp_mk (x := (bs [b0], vals [], (b2.toNat : Int) - 48)) (by simp [bs_size]) HO3.out hI (by omega) (by omega)
      · repeat (refine Below.setCell ?_ (by simp only []; omega) _)
        exact hb3
    · obtain rfl : P = none := by rw [HP.out, if_neg hq]
      have hne : (F == [b0, b1, b2]) = false := by rw [beq_eq_false_iff_ne]; exact hq
      clear HP hq o3 HOF HV
      go_wp2_with fail
      refine bodyPost_ret (v := .tuple #[.agg #[.string (ByteArray.mk #[]), .slice none 0 0, .int .i64 0], .bool false]) (by simp [results, Tryd.results22, go_sem, k_0, k_1, k_2, k_f0, k_f1, k_f2]) rfl ⟨[.string (ByteArray.mk #[]), .slice none 0 0, .int .i64 0], rfl, ?_, ?_⟩
      · refine Own.mono (lo := w.heap.size + 1) (hi := w3.heap.size) ?_ (by omega) (by simp [World.setCell])
        repeat (refine Own.setOut ?_ rfl (by simp only []; omega))
        exact oDp_mk (x := zeroDp) (by decide) (own_nil_S (B := w.heap.size + 1)) (show I64 0 by unfold I64; omega) (by omega) (by omega)
      · repeat (refine Below.setCell ?_ (by simp only []; omega) _)
        exact hb3
  · skip
    go_simp
    obtain ⟨wX, hX⟩ : ∃ W, W = (w1.alloc (.cells #[.string (ByteArray.mk #[]), .slice none 0 0, .int .i64 0] 38)).drew := ⟨_, rfl⟩
    have n_0 : wX.cell? ⟨w.heap.size + 1, 0, none⟩ = some (.string (ByteArray.mk #[])) := by rw [hX, ← s1]; show (World.alloc w1 _).cell? ⟨w1.heap.size, 0, none⟩ = _; exact box_cell (Below.refl _ _) rfl
    have n_1 : wX.cell? ⟨w.heap.size + 1, 1, none⟩ = some (.slice none 0 0) := by rw [hX, ← s1]; show (World.alloc w1 _).cell? ⟨w1.heap.size, 1, none⟩ = _; exact box_cell (Below.refl _ _) rfl
    have n_2 : wX.cell? ⟨w.heap.size + 1, 2, none⟩ = some (.int .i64 0) := by rw [hX, ← s1]; show (World.alloc w1 _).cell? ⟨w1.heap.size, 2, none⟩ = _; exact box_cell (Below.refl _ _) rfl
    have n_f0 : wX.frozen? ⟨w.heap.size + 1, 0, none⟩ = false := by rw [hX, ← s1]; show (World.alloc w1 _).frozen? ⟨w1.heap.size, 0, none⟩ = _; exact box_frozen (Below.refl _ _)
    have n_f1 : wX.frozen? ⟨w.heap.size + 1, 1, none⟩ = false := by rw [hX, ← s1]; show (World.alloc w1 _).frozen? ⟨w1.heap.size, 1, none⟩ = _; exact box_frozen (Below.refl _ _)
    have n_f2 : wX.frozen? ⟨w.heap.size + 1, 2, none⟩ = false := by rw [hX, ← s1]; show (World.alloc w1 _).frozen? ⟨w1.heap.size, 2, none⟩ = _; exact box_frozen (Below.refl _ _)
    have zX : Below w1.heap.size w1 wX := by rw [hX]; exact ((Below.refl _ _).alloc (Nat.le_refl _) _).drew
    have zXq : wX.heap.size = w.heap.size + 1 + 1 := by rw [hX]; simp [s1]
    rw [← hX]
    clear hX
    refine hK.out _ _ ?_ (fun hHeld => ?_)
    · trivial
    clear hK K
    try simp only [Act.put, List.getElem_toArray, List.getElem_cons_succ, List.getElem_cons_zero, List.setIfInBounds_toArray, List.set_cons_zero, List.set_cons_succ]
    refine wpAnyH_ready (rs := [7]) (by kernel_rfl) (by simp) ?_
    refine AllReadyH.cons rfl (fun K hK => ?_) AllReadyH.nil
    go_simp
    refine (HV.out _).mono ?_
    rintro e wA ⟨u, rfl, oA, zA⟩
    obtain ⟨ub, un, uc, rfl⟩ := oI_form1 oA
    skip
    have sA := zA.size
    refine hK.out _ _ ?_ (fun hHeld => ?_)
    · trivial
    clear hK K
    try simp only [Act.put, List.getElem_toArray, List.getElem_cons_succ, List.getElem_cons_zero, List.setIfInBounds_toArray, List.set_cons_zero, List.set_cons_succ]
    refine wpAnyH_take (i := 15) (v := ?v15b3) rfl (by kernel_rfl) (by kernel_rfl) (by kernel_rfl) (fun _ _ _ h => h) (Or.inl ⟨by rfl, ?hy15b3⟩) (by assumption) ?rest15b3
    case hy15b3 => intro w hSw; (try dsimp only at hSw); go_simp; (try (first | (with_reducible rfl) | rfl | exact e8q | exact e9q))
    try simp only [Act.put, List.getElem_toArray, List.getElem_cons_succ, List.getElem_cons_zero, List.setIfInBounds_toArray, List.set_cons_zero, List.set_cons_succ]
    replace n_0 := (zA.cell (p := ⟨w.heap.size + 1, 0, none⟩) (by simp only []; omega)).trans n_0
    replace n_1 := (zA.cell (p := ⟨w.heap.size + 1, 1, none⟩) (by simp only []; omega)).trans n_1
    replace n_2 := (zA.cell (p := ⟨w.heap.size + 1, 2, none⟩) (by simp only []; omega)).trans n_2
    replace n_f0 := (zA.frozen (p := ⟨w.heap.size + 1, 0, none⟩) (by simp only []; omega)).trans n_f0
    replace n_f1 := (zA.frozen (p := ⟨w.heap.size + 1, 1, none⟩) (by simp only []; omega)).trans n_f1
    replace n_f2 := (zA.frozen (p := ⟨w.heap.size + 1, 2, none⟩) (by simp only []; omega)).trans n_f2
    have zB : Below w1.heap.size w1 wX := zX
    have k_0 := ((on zB zA).cell (p := ⟨w.heap.size, 0, none⟩) (by simp only []; omega)).trans r_0
    have k_1 := ((on zB zA).cell (p := ⟨w.heap.size, 1, none⟩) (by simp only []; omega)).trans r_1
    have k_2 := ((on zB zA).cell (p := ⟨w.heap.size, 2, none⟩) (by simp only []; omega)).trans r_2
    have k_f0 := ((on zB zA).frozen (p := ⟨w.heap.size, 0, none⟩) (by simp only []; omega)).trans f_0
    have k_f1 := ((on zB zA).frozen (p := ⟨w.heap.size, 1, none⟩) (by simp only []; omega)).trans f_1
    have k_f2 := ((on zB zA).frozen (p := ⟨w.heap.size, 2, none⟩) (by simp only []; omega)).trans f_2
    have hbY := on (on hb1 zB) zA
    refine wpAnyH_ready (rs := [17]) (by kernel_rfl) (by simp) ?_
    refine AllReadyH.cons rfl (fun K hK => ?_) AllReadyH.nil
    go_simp
    obtain ⟨Wf, hWf⟩ : ∃ W, W = ((wA.setCell ⟨w.heap.size + 1, 0, none⟩ (.string (bs [b0]))).setCell ⟨w.heap.size + 1, 1, none⟩ (.slice ub un uc)).setCell ⟨w.heap.size + 1, 2, none⟩ (.int .i64 ((b2.toNat : Int) - 48)) := ⟨_, rfl⟩
    rw [← hWf]
    refine hK.out _ _ ?_ (fun hHeld => ?_)
    · trivial
    clear hK K
    try simp only [Act.put, List.getElem_toArray, List.getElem_cons_succ, List.getElem_cons_zero, List.setIfInBounds_toArray, List.set_cons_zero, List.set_cons_succ]
    refine wpAnyH_done (by kernel_rfl) ?_ _
    refine NoPanic.normal ?_
    have x_0 : Wf.cell? ⟨w.heap.size + 1, 0, none⟩ = some (.string (bs [b0])) := by rw [hWf]; simp [go_sem, n_0, n_1, n_2]
    have x_1 : Wf.cell? ⟨w.heap.size + 1, 1, none⟩ = some (.slice ub un uc) := by rw [hWf]; simp [go_sem, n_0, n_1, n_2]
    have x_2 : Wf.cell? ⟨w.heap.size + 1, 2, none⟩ = some (.int .i64 ((b2.toNat : Int) - 48)) := by rw [hWf]; simp [go_sem, n_0, n_1, n_2]
    replace k_0 : Wf.cell? ⟨w.heap.size, 0, none⟩ = some (.string (ByteArray.mk #[])) := by rw [hWf]; exact cell_setD (cell_setD (cell_setD k_0 (by simp only []; omega)) (by simp only []; omega)) (by simp only []; omega)
    replace k_1 : Wf.cell? ⟨w.heap.size, 1, none⟩ = some (.slice none 0 0) := by rw [hWf]; exact cell_setD (cell_setD (cell_setD k_1 (by simp only []; omega)) (by simp only []; omega)) (by simp only []; omega)
    replace k_2 : Wf.cell? ⟨w.heap.size, 2, none⟩ = some (.int .i64 0) := by rw [hWf]; exact cell_setD (cell_setD (cell_setD k_2 (by simp only []; omega)) (by simp only []; omega)) (by simp only []; omega)
    replace k_f0 : Wf.frozen? ⟨w.heap.size, 0, none⟩ = false := by rw [hWf]; simp [go_sem, k_f0]
    replace k_f1 : Wf.frozen? ⟨w.heap.size, 1, none⟩ = false := by rw [hWf]; simp [go_sem, k_f1]
    replace k_f2 : Wf.frozen? ⟨w.heap.size, 2, none⟩ = false := by rw [hWf]; simp [go_sem, k_f2]
    have sf : Wf.heap.size = wA.heap.size := by rw [hWf]; simp [World.setCell]
    have hbF : Below w.heap.size w Wf := by
      rw [hWf]
      repeat (refine Below.setCell ?_ (by simp only []; omega) _)
      exact hbY
    have oF : Own oI (w.heap.size + 1) Wf.heap.size Wf [.slice ub un uc] (vals []) := by
      rw [hWf]
      refine Own.mono (lo := wX.heap.size) (hi := wA.heap.size) ?_ (by omega) (by simp [World.setCell])
      repeat (refine Own.setOut ?_ rfl (by simp only []; omega))
      exact oA
    clear hWf oA n_0 n_1 n_2 n_f0 n_f1 n_f2
    have HOF := Lib.hid oF
    clear oF e8 e9 e8q e9q
    go_wp2_with fail
    refine (fmtDp_spec _ (bs [b0], vals [], (b2.toNat : Int) - 48) _ (rDp_mk (by simp [bs_size]) (HOF.out.rd reads_I) (show I64 ((b2.toNat : Int) - 48) by unfold I64; omega)) (by simp [vals_len])).mono ?_
    rintro e w3 ⟨rfl, z3⟩
    have s3 := z3.size
    have hb3 := on hbF z3
    have o3 := HOF.out.below z3 (Nat.le_refl _)
    replace x_0 := (z3.cell (p := ⟨w.heap.size + 1, 0, none⟩) (by simp only []; omega)).trans x_0
    replace x_1 := (z3.cell (p := ⟨w.heap.size + 1, 1, none⟩) (by simp only []; omega)).trans x_1
    replace x_2 := (z3.cell (p := ⟨w.heap.size + 1, 2, none⟩) (by simp only []; omega)).trans x_2
    replace k_0 := (z3.cell (p := ⟨w.heap.size, 0, none⟩) (by simp only []; omega)).trans k_0
    replace k_1 := (z3.cell (p := ⟨w.heap.size, 1, none⟩) (by simp only []; omega)).trans k_1
    replace k_2 := (z3.cell (p := ⟨w.heap.size, 2, none⟩) (by simp only []; omega)).trans k_2
    replace k_f0 := (z3.frozen (p := ⟨w.heap.size, 0, none⟩) (by simp only []; omega)).trans k_f0
    replace k_f1 := (z3.frozen (p := ⟨w.heap.size, 1, none⟩) (by simp only []; omega)).trans k_f1
    replace k_f2 := (z3.frozen (p := ⟨w.heap.size, 2, none⟩) (by simp only []; omega)).trans k_f2
    obtain ⟨F, hF⟩ : ∃ F, fmtDp (bs [b0], vals [], (b2.toNat : Int) - 48) = F := ⟨_, rfl⟩
    simp only [hF] at HP ⊢
    clear hF
    have hI : I64 ((b2.toNat : Int) - 48) := by unfold I64; omega
    by_cases hq : F = [b0, b1, b2]
    · obtain rfl : P = some (bs [b0], vals [], (b2.toNat : Int) - 48) := by rw [HP.out, if_pos hq]
      subst hq
      have hB : bs [b0, b1, b2] = ByteArray.mk #[b0, b1, b2] := rfl
      rw [hB]
      have HO3 := Lib.hid o3
      clear HP hB o3 HOF HV
      go_wp2_with fail
      refine bodyPost_ret (v := .tuple #[.agg #[.string (bs [b0]), .slice ub un uc, .int .i64 ((b2.toNat : Int) - 48)], .bool true]) (by simp [results, Tryd.results22, go_sem, k_0, k_1, k_2, k_f0, k_f1, k_f2]) rfl ⟨[.string (bs [b0]), .slice ub un uc, .int .i64 ((b2.toNat : Int) - 48)], rfl, ?_, ?_⟩
      · refine Own.mono (lo := w.heap.size + 1) (hi := w3.heap.size) ?_ (by omega) (by simp [World.setCell])
        repeat (refine Own.setOut ?_ rfl (by simp only []; omega))
        exact oDp_mk (x := (bs [b0], vals [], (b2.toNat : Int) - 48)) (by simp [bs_size]) HO3.out hI (by omega) (by omega)
      · repeat (refine Below.setCell ?_ (by simp only []; omega) _)
        exact hb3
    · obtain rfl : P = none := by rw [HP.out, if_neg hq]
      have hne : (F == [b0, b1, b2]) = false := by rw [beq_eq_false_iff_ne]; exact hq
      clear HP hq o3 HOF HV
      go_wp2_with fail
      refine bodyPost_ret (v := .tuple #[.agg #[.string (ByteArray.mk #[]), .slice none 0 0, .int .i64 0], .bool false]) (by simp [results, Tryd.results22, go_sem, k_0, k_1, k_2, k_f0, k_f1, k_f2]) rfl ⟨[.string (ByteArray.mk #[]), .slice none 0 0, .int .i64 0], rfl, ?_, ?_⟩
      · refine Own.mono (lo := w.heap.size + 1) (hi := w3.heap.size) ?_ (by omega) (by simp [World.setCell])
        repeat (refine Own.setOut ?_ rfl (by simp only []; omega))
        exact oDp_mk (x := zeroDp) (by decide) (own_nil_S (B := w.heap.size + 1)) (show I64 0 by unfold I64; omega) (by omega) (by omega)
      · repeat (refine Below.setCell ?_ (by simp only []; omega) _)
        exact hb3

set_option maxRecDepth 100000 in
set_option maxHeartbeats 4000000 in
theorem parDp_spec4 (b0 b1 b2 b3 : UInt8) (w : World) :
    Calls Tryd.prog 22 #[.string (ByteArray.mk #[b0, b1, b2, b3])] w fun e w' => ∃ cs, e = .returned (.tuple #[.agg cs.toArray, .bool (parDpL [b0, b1, b2, b3]).isSome]) ∧ Own oDp w.heap.size w'.heap.size w' cs ((parDpL [b0, b1, b2, b3]).getD zeroDp) ∧ Below w.heap.size w w' := by
  have HP : Hid (parDpL [b0, b1, b2, b3] = if fmtDp (bs [b0], vals [b1], (b3.toNat : Int) - 48) = [b0, b1, b2, b3] then some (bs [b0], vals [b1], (b3.toNat : Int) - 48) else none) := Lib.hid (by
    show (if _ then _ else _) = _
    simp [rawDp])
  obtain ⟨P, hP⟩ : ∃ P, parDpL [b0, b1, b2, b3] = P := ⟨_, rfl⟩
  rw [hP] at HP ⊢
  clear hP
  have HV : Hid (∀ W, Calls Tryd.prog 69 #[.string (bs [b1])] W fun e w' => ∃ u, e = .returned u ∧ Own oI W.heap.size w'.heap.size w' [u] (vals [b1]) ∧ Below W.heap.size W w') := Lib.hid (fun W => l4Values_any (bs [b1]) W (by simp [bs_size]))
  go_enter Tryd.func22, Tryd.ntmps22
  obtain ⟨w1, hw1⟩ : ∃ W, W = w.alloc (.cells #[.string (ByteArray.mk #[]), .slice none 0 0, .int .i64 0] 38) := ⟨_, rfl⟩
  have hb1 : Below w.heap.size w w1 := by rw [hw1]; exact (Below.refl _ _).alloc (Nat.le_refl _) _
  have s1 : w1.heap.size = w.heap.size + 1 := by rw [hw1]; simp
  have r_0 : w1.cell? ⟨w.heap.size, 0, none⟩ = some (.string (ByteArray.mk #[])) := by rw [hw1]; exact box_cell (Below.refl _ _) rfl
  have r_1 : w1.cell? ⟨w.heap.size, 1, none⟩ = some (.slice none 0 0) := by rw [hw1]; exact box_cell (Below.refl _ _) rfl
  have r_2 : w1.cell? ⟨w.heap.size, 2, none⟩ = some (.int .i64 0) := by rw [hw1]; exact box_cell (Below.refl _ _) rfl
  have f_0 : w1.frozen? ⟨w.heap.size, 0, none⟩ = false := by rw [hw1]; exact box_frozen (Below.refl _ _)
  have f_1 : w1.frozen? ⟨w.heap.size, 1, none⟩ = false := by rw [hw1]; exact box_frozen (Below.refl _ _)
  have f_2 : w1.frozen? ⟨w.heap.size, 2, none⟩ = false := by rw [hw1]; exact box_frozen (Below.refl _ _)
  go_wp2_with fail
  rw [← hw1]
  clear hw1
  have h9 := b3.toNat_lt
  have e8 : wrap64 (b3.toNat : Int) = (b3.toNat : Int) := by unfold wrap64; omega
  have e9 : wrap64 ((b3.toNat : Int) - 48) = (b3.toNat : Int) - 48 := by unfold wrap64; omega
  have e8q : IntKind.i64.wrap (b3.toNat : Int) = (b3.toNat : Int) := IntWalk.i64_in _ (by omega)
  have e9q : IntKind.i64.wrap ((b3.toNat : Int) - 48) = (b3.toNat : Int) - 48 := IntWalk.i64_in _ (by omega)
  refine wp_region_noPanic ?_
  refine wp_region_held_drew (S := (fun W => True)) (by kernel_rfl) ?hS2 (fun hHeld => ?_)
  case hS2 => trivial
  refine wpAnyH_take (i := 0) (v := ?v0d4) rfl (by kernel_rfl) (by kernel_rfl) (by kernel_rfl) (fun _ _ _ h => h) (Or.inl ⟨by rfl, ?hy0d4⟩) (by assumption) ?rest0d4
  case hy0d4 => intro w hSw; (try dsimp only at hSw); go_simp; (try (first | (with_reducible rfl) | rfl | exact e8q | exact e9q))
  try simp only [Act.put, List.getElem_toArray, List.getElem_cons_succ, List.getElem_cons_zero, List.setIfInBounds_toArray, List.set_cons_zero, List.set_cons_succ]
  refine wpAnyH_take (i := 1) (v := .string (bs [b0])) rfl (by kernel_rfl) (by kernel_rfl) (by kernel_rfl) (fun _ _ _ h => h) (Or.inl ⟨by rfl, ?hy1d4⟩) (by assumption) ?rest1d4
  case hy1d4 => intro w hSw; (try dsimp only at hSw); go_simp; (try (first | (with_reducible rfl) | rfl | exact e8q | exact e9q))
  try simp only [Act.put, List.getElem_toArray, List.getElem_cons_succ, List.getElem_cons_zero, List.setIfInBounds_toArray, List.set_cons_zero, List.set_cons_succ]
  refine wpAnyH_take (i := 2) (v := ?v2d4) rfl (by kernel_rfl) (by kernel_rfl) (by kernel_rfl) (fun _ _ _ h => h) (Or.inl ⟨by rfl, ?hy2d4⟩) (by assumption) ?rest2d4
  case hy2d4 => intro w hSw; (try dsimp only at hSw); go_simp; (try (first | (with_reducible rfl) | rfl | exact e8q | exact e9q))
  try simp only [Act.put, List.getElem_toArray, List.getElem_cons_succ, List.getElem_cons_zero, List.setIfInBounds_toArray, List.set_cons_zero, List.set_cons_succ]
  refine wpAnyH_take (i := 3) (v := ?v3d4) rfl (by kernel_rfl) (by kernel_rfl) (by kernel_rfl) (fun _ _ _ h => h) (Or.inl ⟨by rfl, ?hy3d4⟩) (by assumption) ?rest3d4
  case hy3d4 => intro w hSw; (try dsimp only at hSw); go_simp; (try (first | (with_reducible rfl) | rfl | exact e8q | exact e9q))
  try simp only [Act.put, List.getElem_toArray, List.getElem_cons_succ, List.getElem_cons_zero, List.setIfInBounds_toArray, List.set_cons_zero, List.set_cons_succ]
  refine wpAnyH_take (i := 4) (v := ?v4d4) rfl (by kernel_rfl) (by kernel_rfl) (by kernel_rfl) (fun _ _ _ h => h) (Or.inl ⟨by rfl, ?hy4d4⟩) (by assumption) ?rest4d4
  case hy4d4 => intro w hSw; (try dsimp only at hSw); go_simp; (try (first | (with_reducible rfl) | rfl | exact e8q | exact e9q))
  try simp only [Act.put, List.getElem_toArray, List.getElem_cons_succ, List.getElem_cons_zero, List.setIfInBounds_toArray, List.set_cons_zero, List.set_cons_succ]
  refine wpAnyH_take (i := 5) (v := ?v5d4) rfl (by kernel_rfl) (by kernel_rfl) (by kernel_rfl) (fun _ _ _ h => h) (Or.inl ⟨by rfl, ?hy5d4⟩) (by assumption) ?rest5d4
  case hy5d4 => intro w hSw; (try dsimp only at hSw); go_simp; (try (first | (with_reducible rfl) | rfl | exact e8q | exact e9q))
  try simp only [Act.put, List.getElem_toArray, List.getElem_cons_succ, List.getElem_cons_zero, List.setIfInBounds_toArray, List.set_cons_zero, List.set_cons_succ]
  refine wpAnyH_take (i := 6) (v := .string (bs [b1])) rfl (by kernel_rfl) (by kernel_rfl) (by kernel_rfl) (fun _ _ _ h => h) (Or.inl ⟨by rfl, ?hy6d4⟩) (by assumption) ?rest6d4
  case hy6d4 => intro w hSw; (try dsimp only at hSw); go_simp; (try (first | (with_reducible rfl) | rfl | exact e8q | exact e9q))
  try simp only [Act.put, List.getElem_toArray, List.getElem_cons_succ, List.getElem_cons_zero, List.setIfInBounds_toArray, List.set_cons_zero, List.set_cons_succ]
  refine wpAnyH_take (i := 8) (v := ?v8d4) rfl (by kernel_rfl) (by kernel_rfl) (by kernel_rfl) (fun _ _ _ h => h) (Or.inl ⟨by rfl, ?hy8d4⟩) (by assumption) ?rest8d4
  case hy8d4 => intro w hSw; (try dsimp only at hSw); go_simp; (try (first | (with_reducible rfl) | rfl | exact e8q | exact e9q))
  try simp only [Act.put, List.getElem_toArray, List.getElem_cons_succ, List.getElem_cons_zero, List.setIfInBounds_toArray, List.set_cons_zero, List.set_cons_succ]
  refine wpAnyH_take (i := 9) (v := ?v9d4) rfl (by kernel_rfl) (by kernel_rfl) (by kernel_rfl) (fun _ _ _ h => h) (Or.inl ⟨by rfl, ?hy9d4⟩) (by assumption) ?rest9d4
  case hy9d4 => intro w hSw; (try dsimp only at hSw); go_simp; (try (first | (with_reducible rfl) | rfl | exact e8q | exact e9q))
  try simp only [Act.put, List.getElem_toArray, List.getElem_cons_succ, List.getElem_cons_zero, List.setIfInBounds_toArray, List.set_cons_zero, List.set_cons_succ]
  refine wpAnyH_take (i := 10) (v := ?v10d4) rfl (by kernel_rfl) (by kernel_rfl) (by kernel_rfl) (fun _ _ _ h => h) (Or.inl ⟨by rfl, ?hy10d4⟩) (by assumption) ?rest10d4
  case hy10d4 => intro w hSw; (try dsimp only at hSw); go_simp; (try (first | (with_reducible rfl) | rfl | exact e8q | exact e9q))
  try simp only [Act.put, List.getElem_toArray, List.getElem_cons_succ, List.getElem_cons_zero, List.setIfInBounds_toArray, List.set_cons_zero, List.set_cons_succ]
  refine wpAnyH_take (i := 11) (v := ?v11d4) rfl (by kernel_rfl) (by kernel_rfl) (by kernel_rfl) (fun _ _ _ h => h) (Or.inl ⟨by rfl, ?hy11d4⟩) (by assumption) ?rest11d4
  case hy11d4 => intro w hSw; (try dsimp only at hSw); go_simp; (try (first | (with_reducible rfl) | rfl | exact e8q | exact e9q))
  try simp only [Act.put, List.getElem_toArray, List.getElem_cons_succ, List.getElem_cons_zero, List.setIfInBounds_toArray, List.set_cons_zero, List.set_cons_succ]
  refine wpAnyH_take (i := 12) (v := .int .u8 (b3.toNat : Int)) rfl (by kernel_rfl) (by kernel_rfl) (by kernel_rfl) (fun _ _ _ h => h) (Or.inl ⟨by rfl, ?hy12d4⟩) (by assumption) ?rest12d4
  case hy12d4 => intro w hSw; (try dsimp only at hSw); go_simp; (try (first | (with_reducible rfl) | rfl | exact e8q | exact e9q))
  try simp only [Act.put, List.getElem_toArray, List.getElem_cons_succ, List.getElem_cons_zero, List.setIfInBounds_toArray, List.set_cons_zero, List.set_cons_succ]
  refine wpAnyH_take (i := 13) (v := .int .i64 (b3.toNat : Int)) rfl (by kernel_rfl) (by kernel_rfl) (by kernel_rfl) (fun _ _ _ h => h) (Or.inl ⟨by rfl, ?hy13d4⟩) (by assumption) ?rest13d4
  case hy13d4 => intro w hSw; (try dsimp only at hSw); go_simp; (try (first | (with_reducible rfl) | rfl | exact e8q | exact e9q))
  try simp only [Act.put, List.getElem_toArray, List.getElem_cons_succ, List.getElem_cons_zero, List.setIfInBounds_toArray, List.set_cons_zero, List.set_cons_succ]
  refine wpAnyH_take (i := 14) (v := .int .i64 ((b3.toNat : Int) - 48)) rfl (by kernel_rfl) (by kernel_rfl) (by kernel_rfl) (fun _ _ _ h => h) (Or.inl ⟨by rfl, ?hy14d4⟩) (by assumption) ?rest14d4
  case hy14d4 => intro w hSw; (try dsimp only at hSw); go_simp; (try (first | (with_reducible rfl) | rfl | exact e8q | exact e9q))
  try simp only [Act.put, List.getElem_toArray, List.getElem_cons_succ, List.getElem_cons_zero, List.setIfInBounds_toArray, List.set_cons_zero, List.set_cons_succ]
  refine wpAnyH_ready (rs := [7, 16]) (by kernel_rfl) (by simp) ?_
  refine AllReadyH.cons rfl (fun K hK => ?_) (AllReadyH.cons rfl (fun K hK => ?_) AllReadyH.nil)
  · skip
    go_simp
    refine (HV.out _).mono ?_
    rintro e wA ⟨u, rfl, oA, zA⟩
    obtain ⟨ub, un, uc, rfl⟩ := oI_form1 oA
    replace zA : Below w1.heap.size w1 wA := on (Below.refl _ _).drew zA
    have sA := zA.size
    refine hK.out _ _ ?_ (fun hHeld => ?_)
    · trivial
    clear hK K
    try simp only [Act.put, List.getElem_toArray, List.getElem_cons_succ, List.getElem_cons_zero, List.setIfInBounds_toArray, List.set_cons_zero, List.set_cons_succ]
    refine wpAnyH_take (i := 15) (v := ?v15a4) rfl (by kernel_rfl) (by kernel_rfl) (by kernel_rfl) (fun _ _ _ h => h) (Or.inl ⟨by rfl, ?hy15a4⟩) (by assumption) ?rest15a4
    case hy15a4 => intro w hSw; (try dsimp only at hSw); go_simp; (try (first | (with_reducible rfl) | rfl | exact e8q | exact e9q))
    try simp only [Act.put, List.getElem_toArray, List.getElem_cons_succ, List.getElem_cons_zero, List.setIfInBounds_toArray, List.set_cons_zero, List.set_cons_succ]
    refine wpAnyH_ready (rs := [16]) (by kernel_rfl) (by simp) ?_
    refine AllReadyH.cons rfl (fun K hK => ?_) AllReadyH.nil
    go_simp
    obtain ⟨wX, hX⟩ : ∃ W, W = wA.alloc (.cells #[.string (ByteArray.mk #[]), .slice none 0 0, .int .i64 0] 38) := ⟨_, rfl⟩
    have n_0 : wX.cell? ⟨wA.heap.size, 0, none⟩ = some (.string (ByteArray.mk #[])) := by rw [hX]; show (World.alloc wA _).cell? ⟨wA.heap.size, 0, none⟩ = _; exact box_cell (Below.refl _ _) rfl
    have n_1 : wX.cell? ⟨wA.heap.size, 1, none⟩ = some (.slice none 0 0) := by rw [hX]; show (World.alloc wA _).cell? ⟨wA.heap.size, 1, none⟩ = _; exact box_cell (Below.refl _ _) rfl
    have n_2 : wX.cell? ⟨wA.heap.size, 2, none⟩ = some (.int .i64 0) := by rw [hX]; show (World.alloc wA _).cell? ⟨wA.heap.size, 2, none⟩ = _; exact box_cell (Below.refl _ _) rfl
    have n_f0 : wX.frozen? ⟨wA.heap.size, 0, none⟩ = false := by rw [hX]; show (World.alloc wA _).frozen? ⟨wA.heap.size, 0, none⟩ = _; exact box_frozen (Below.refl _ _)
    have n_f1 : wX.frozen? ⟨wA.heap.size, 1, none⟩ = false := by rw [hX]; show (World.alloc wA _).frozen? ⟨wA.heap.size, 1, none⟩ = _; exact box_frozen (Below.refl _ _)
    have n_f2 : wX.frozen? ⟨wA.heap.size, 2, none⟩ = false := by rw [hX]; show (World.alloc wA _).frozen? ⟨wA.heap.size, 2, none⟩ = _; exact box_frozen (Below.refl _ _)
    have zX : Below wA.heap.size wA wX := by rw [hX]; exact (Below.refl _ _).alloc (Nat.le_refl _) _
    have zXq : wX.heap.size = wA.heap.size + 1 := by rw [hX]; simp
    rw [← hX]
    clear hX
    refine hK.out _ _ ?_ (fun hHeld => ?_)
    · trivial
    clear hK K
    try simp only [Act.put, List.getElem_toArray, List.getElem_cons_succ, List.getElem_cons_zero, List.setIfInBounds_toArray, List.set_cons_zero, List.set_cons_succ]
    have k_0 := ((on zA zX).cell (p := ⟨w.heap.size, 0, none⟩) (by simp only []; omega)).trans r_0
    have k_1 := ((on zA zX).cell (p := ⟨w.heap.size, 1, none⟩) (by simp only []; omega)).trans r_1
    have k_2 := ((on zA zX).cell (p := ⟨w.heap.size, 2, none⟩) (by simp only []; omega)).trans r_2
    have k_f0 := ((on zA zX).frozen (p := ⟨w.heap.size, 0, none⟩) (by simp only []; omega)).trans f_0
    have k_f1 := ((on zA zX).frozen (p := ⟨w.heap.size, 1, none⟩) (by simp only []; omega)).trans f_1
    have k_f2 := ((on zA zX).frozen (p := ⟨w.heap.size, 2, none⟩) (by simp only []; omega)).trans f_2
    have hbY := on (on hb1 zA) zX
    refine wpAnyH_ready (rs := [17]) (by kernel_rfl) (by simp) ?_
    refine AllReadyH.cons rfl (fun K hK => ?_) AllReadyH.nil
    go_simp
    obtain ⟨Wf, hWf⟩ : ∃ W, W = ((wX.setCell ⟨wA.heap.size, 0, none⟩ (.string (bs [b0]))).setCell ⟨wA.heap.size, 1, none⟩ (.slice ub un uc)).setCell ⟨wA.heap.size, 2, none⟩ (.int .i64 ((b3.toNat : Int) - 48)) := ⟨_, rfl⟩
    rw [← hWf]
    refine hK.out _ _ ?_ (fun hHeld => ?_)
    · trivial
    clear hK K
    try simp only [Act.put, List.getElem_toArray, List.getElem_cons_succ, List.getElem_cons_zero, List.setIfInBounds_toArray, List.set_cons_zero, List.set_cons_succ]
    refine wpAnyH_done (by kernel_rfl) ?_ _
    refine NoPanic.normal ?_
    have x_0 : Wf.cell? ⟨wA.heap.size, 0, none⟩ = some (.string (bs [b0])) := by rw [hWf]; simp [go_sem, n_0, n_1, n_2]
    have x_1 : Wf.cell? ⟨wA.heap.size, 1, none⟩ = some (.slice ub un uc) := by rw [hWf]; simp [go_sem, n_0, n_1, n_2]
    have x_2 : Wf.cell? ⟨wA.heap.size, 2, none⟩ = some (.int .i64 ((b3.toNat : Int) - 48)) := by rw [hWf]; simp [go_sem, n_0, n_1, n_2]
    replace k_0 : Wf.cell? ⟨w.heap.size, 0, none⟩ = some (.string (ByteArray.mk #[])) := by rw [hWf]; exact cell_setD (cell_setD (cell_setD k_0 (by simp only []; omega)) (by simp only []; omega)) (by simp only []; omega)
    replace k_1 : Wf.cell? ⟨w.heap.size, 1, none⟩ = some (.slice none 0 0) := by rw [hWf]; exact cell_setD (cell_setD (cell_setD k_1 (by simp only []; omega)) (by simp only []; omega)) (by simp only []; omega)
    replace k_2 : Wf.cell? ⟨w.heap.size, 2, none⟩ = some (.int .i64 0) := by rw [hWf]; exact cell_setD (cell_setD (cell_setD k_2 (by simp only []; omega)) (by simp only []; omega)) (by simp only []; omega)
    replace k_f0 : Wf.frozen? ⟨w.heap.size, 0, none⟩ = false := by rw [hWf]; simp [go_sem, k_f0]
    replace k_f1 : Wf.frozen? ⟨w.heap.size, 1, none⟩ = false := by rw [hWf]; simp [go_sem, k_f1]
    replace k_f2 : Wf.frozen? ⟨w.heap.size, 2, none⟩ = false := by rw [hWf]; simp [go_sem, k_f2]
    have sf : Wf.heap.size = wX.heap.size := by rw [hWf]; simp [World.setCell]
    have hbF : Below w.heap.size w Wf := by
      rw [hWf]
      repeat (refine Below.setCell ?_ (by simp only []; omega) _)
      exact hbY
    have oF : Own oI (w.heap.size + 1) Wf.heap.size Wf [.slice ub un uc] (vals [b1]) := by
      have zF : Below wA.heap.size wA Wf := by
        rw [hWf]
        repeat (refine Below.setCell ?_ (by simp only []; omega) _)
        exact zX
      refine (oA.below zF (Nat.le_refl _)).mono ?_ (by omega)
      show w.heap.size + 1 ≤ w1.heap.size
      omega
    clear hWf oA n_0 n_1 n_2 n_f0 n_f1 n_f2
    have HOF := Lib.hid oF
    clear oF e8 e9 e8q e9q
    go_wp2_with fail
    refine (fmtDp_spec _ (bs [b0], vals [b1], (b3.toNat : Int) - 48) _ (rDp_mk (by simp [bs_size]) (HOF.out.rd reads_I) (show I64 ((b3.toNat : Int) - 48) by unfold I64; omega)) (by simp [vals_len])).mono ?_
    rintro e w3 ⟨rfl, z3⟩
    have s3 := z3.size
    have hb3 := on hbF z3
    have o3 := HOF.out.below z3 (Nat.le_refl _)
    replace x_0 := (z3.cell (p := ⟨wA.heap.size, 0, none⟩) (by simp only []; omega)).trans x_0
    replace x_1 := (z3.cell (p := ⟨wA.heap.size, 1, none⟩) (by simp only []; omega)).trans x_1
    replace x_2 := (z3.cell (p := ⟨wA.heap.size, 2, none⟩) (by simp only []; omega)).trans x_2
    replace k_0 := (z3.cell (p := ⟨w.heap.size, 0, none⟩) (by simp only []; omega)).trans k_0
    replace k_1 := (z3.cell (p := ⟨w.heap.size, 1, none⟩) (by simp only []; omega)).trans k_1
    replace k_2 := (z3.cell (p := ⟨w.heap.size, 2, none⟩) (by simp only []; omega)).trans k_2
    replace k_f0 := (z3.frozen (p := ⟨w.heap.size, 0, none⟩) (by simp only []; omega)).trans k_f0
    replace k_f1 := (z3.frozen (p := ⟨w.heap.size, 1, none⟩) (by simp only []; omega)).trans k_f1
    replace k_f2 := (z3.frozen (p := ⟨w.heap.size, 2, none⟩) (by simp only []; omega)).trans k_f2
    obtain ⟨F, hF⟩ : ∃ F, fmtDp (bs [b0], vals [b1], (b3.toNat : Int) - 48) = F := ⟨_, rfl⟩
    simp only [hF] at HP ⊢
    clear hF
    have hI : I64 ((b3.toNat : Int) - 48) := by unfold I64; omega
    by_cases hq : F = [b0, b1, b2, b3]
    · obtain rfl : P = some (bs [b0], vals [b1], (b3.toNat : Int) - 48) := by rw [HP.out, if_pos hq]
      subst hq
      have hB : bs [b0, b1, b2, b3] = ByteArray.mk #[b0, b1, b2, b3] := rfl
      rw [hB]
      have HO3 := Lib.hid o3
      clear HP hB o3 HOF HV
      go_wp2_with fail
      refine bodyPost_ret (v := .tuple #[.agg #[.string (bs [b0]), .slice ub un uc, .int .i64 ((b3.toNat : Int) - 48)], .bool true]) (by simp [results, Tryd.results22, go_sem, k_0, k_1, k_2, k_f0, k_f1, k_f2]) rfl ⟨[.string (bs [b0]), .slice ub un uc, .int .i64 ((b3.toNat : Int) - 48)], rfl, ?_, ?_⟩
      · refine Own.mono (lo := w.heap.size + 1) (hi := w3.heap.size) ?_ (by omega) (by simp [World.setCell])
        repeat (refine Own.setOut ?_ rfl (by simp only []; omega))
        exact oDp_mk (x := (bs [b0], vals [b1], (b3.toNat : Int) - 48)) (by simp [bs_size]) HO3.out hI (by omega) (by omega)
      · repeat (refine Below.setCell ?_ (by simp only []; omega) _)
        exact hb3
    · obtain rfl : P = none := by rw [HP.out, if_neg hq]
      have hne : (F == [b0, b1, b2, b3]) = false := by rw [beq_eq_false_iff_ne]; exact hq
      clear HP hq o3 HOF HV
      go_wp2_with fail
      refine bodyPost_ret (v := .tuple #[.agg #[.string (ByteArray.mk #[]), .slice none 0 0, .int .i64 0], .bool false]) (by simp [results, Tryd.results22, go_sem, k_0, k_1, k_2, k_f0, k_f1, k_f2]) rfl ⟨[.string (ByteArray.mk #[]), .slice none 0 0, .int .i64 0], rfl, ?_, ?_⟩
      · refine Own.mono (lo := w.heap.size + 1) (hi := w3.heap.size) ?_ (by omega) (by simp [World.setCell])
        repeat (refine Own.setOut ?_ rfl (by simp only []; omega))
        exact oDp_mk (x := zeroDp) (by decide) (own_nil_S (B := w.heap.size + 1)) (show I64 0 by unfold I64; omega) (by omega) (by omega)
      · repeat (refine Below.setCell ?_ (by simp only []; omega) _)
        exact hb3
  · skip
    go_simp
    obtain ⟨wX, hX⟩ : ∃ W, W = (w1.alloc (.cells #[.string (ByteArray.mk #[]), .slice none 0 0, .int .i64 0] 38)).drew := ⟨_, rfl⟩
    have n_0 : wX.cell? ⟨w.heap.size + 1, 0, none⟩ = some (.string (ByteArray.mk #[])) := by rw [hX, ← s1]; show (World.alloc w1 _).cell? ⟨w1.heap.size, 0, none⟩ = _; exact box_cell (Below.refl _ _) rfl
    have n_1 : wX.cell? ⟨w.heap.size + 1, 1, none⟩ = some (.slice none 0 0) := by rw [hX, ← s1]; show (World.alloc w1 _).cell? ⟨w1.heap.size, 1, none⟩ = _; exact box_cell (Below.refl _ _) rfl
    have n_2 : wX.cell? ⟨w.heap.size + 1, 2, none⟩ = some (.int .i64 0) := by rw [hX, ← s1]; show (World.alloc w1 _).cell? ⟨w1.heap.size, 2, none⟩ = _; exact box_cell (Below.refl _ _) rfl
    have n_f0 : wX.frozen? ⟨w.heap.size + 1, 0, none⟩ = false := by rw [hX, ← s1]; show (World.alloc w1 _).frozen? ⟨w1.heap.size, 0, none⟩ = _; exact box_frozen (Below.refl _ _)
    have n_f1 : wX.frozen? ⟨w.heap.size + 1, 1, none⟩ = false := by rw [hX, ← s1]; show (World.alloc w1 _).frozen? ⟨w1.heap.size, 1, none⟩ = _; exact box_frozen (Below.refl _ _)
    have n_f2 : wX.frozen? ⟨w.heap.size + 1, 2, none⟩ = false := by rw [hX, ← s1]; show (World.alloc w1 _).frozen? ⟨w1.heap.size, 2, none⟩ = _; exact box_frozen (Below.refl _ _)
    have zX : Below w1.heap.size w1 wX := by rw [hX]; exact ((Below.refl _ _).alloc (Nat.le_refl _) _).drew
    have zXq : wX.heap.size = w.heap.size + 1 + 1 := by rw [hX]; simp [s1]
    rw [← hX]
    clear hX
    refine hK.out _ _ ?_ (fun hHeld => ?_)
    · trivial
    clear hK K
    try simp only [Act.put, List.getElem_toArray, List.getElem_cons_succ, List.getElem_cons_zero, List.setIfInBounds_toArray, List.set_cons_zero, List.set_cons_succ]
    refine wpAnyH_ready (rs := [7]) (by kernel_rfl) (by simp) ?_
    refine AllReadyH.cons rfl (fun K hK => ?_) AllReadyH.nil
    go_simp
    refine (HV.out _).mono ?_
    rintro e wA ⟨u, rfl, oA, zA⟩
    obtain ⟨ub, un, uc, rfl⟩ := oI_form1 oA
    skip
    have sA := zA.size
    refine hK.out _ _ ?_ (fun hHeld => ?_)
    · trivial
    clear hK K
    try simp only [Act.put, List.getElem_toArray, List.getElem_cons_succ, List.getElem_cons_zero, List.setIfInBounds_toArray, List.set_cons_zero, List.set_cons_succ]
    refine wpAnyH_take (i := 15) (v := ?v15b4) rfl (by kernel_rfl) (by kernel_rfl) (by kernel_rfl) (fun _ _ _ h => h) (Or.inl ⟨by rfl, ?hy15b4⟩) (by assumption) ?rest15b4
    case hy15b4 => intro w hSw; (try dsimp only at hSw); go_simp; (try (first | (with_reducible rfl) | rfl | exact e8q | exact e9q))
    try simp only [Act.put, List.getElem_toArray, List.getElem_cons_succ, List.getElem_cons_zero, List.setIfInBounds_toArray, List.set_cons_zero, List.set_cons_succ]
    replace n_0 := (zA.cell (p := ⟨w.heap.size + 1, 0, none⟩) (by simp only []; omega)).trans n_0
    replace n_1 := (zA.cell (p := ⟨w.heap.size + 1, 1, none⟩) (by simp only []; omega)).trans n_1
    replace n_2 := (zA.cell (p := ⟨w.heap.size + 1, 2, none⟩) (by simp only []; omega)).trans n_2
    replace n_f0 := (zA.frozen (p := ⟨w.heap.size + 1, 0, none⟩) (by simp only []; omega)).trans n_f0
    replace n_f1 := (zA.frozen (p := ⟨w.heap.size + 1, 1, none⟩) (by simp only []; omega)).trans n_f1
    replace n_f2 := (zA.frozen (p := ⟨w.heap.size + 1, 2, none⟩) (by simp only []; omega)).trans n_f2
    have zB : Below w1.heap.size w1 wX := zX
    have k_0 := ((on zB zA).cell (p := ⟨w.heap.size, 0, none⟩) (by simp only []; omega)).trans r_0
    have k_1 := ((on zB zA).cell (p := ⟨w.heap.size, 1, none⟩) (by simp only []; omega)).trans r_1
    have k_2 := ((on zB zA).cell (p := ⟨w.heap.size, 2, none⟩) (by simp only []; omega)).trans r_2
    have k_f0 := ((on zB zA).frozen (p := ⟨w.heap.size, 0, none⟩) (by simp only []; omega)).trans f_0
    have k_f1 := ((on zB zA).frozen (p := ⟨w.heap.size, 1, none⟩) (by simp only []; omega)).trans f_1
    have k_f2 := ((on zB zA).frozen (p := ⟨w.heap.size, 2, none⟩) (by simp only []; omega)).trans f_2
    have hbY := on (on hb1 zB) zA
    refine wpAnyH_ready (rs := [17]) (by kernel_rfl) (by simp) ?_
    refine AllReadyH.cons rfl (fun K hK => ?_) AllReadyH.nil
    go_simp
    obtain ⟨Wf, hWf⟩ : ∃ W, W = ((wA.setCell ⟨w.heap.size + 1, 0, none⟩ (.string (bs [b0]))).setCell ⟨w.heap.size + 1, 1, none⟩ (.slice ub un uc)).setCell ⟨w.heap.size + 1, 2, none⟩ (.int .i64 ((b3.toNat : Int) - 48)) := ⟨_, rfl⟩
    rw [← hWf]
    refine hK.out _ _ ?_ (fun hHeld => ?_)
    · trivial
    clear hK K
    try simp only [Act.put, List.getElem_toArray, List.getElem_cons_succ, List.getElem_cons_zero, List.setIfInBounds_toArray, List.set_cons_zero, List.set_cons_succ]
    refine wpAnyH_done (by kernel_rfl) ?_ _
    refine NoPanic.normal ?_
    have x_0 : Wf.cell? ⟨w.heap.size + 1, 0, none⟩ = some (.string (bs [b0])) := by rw [hWf]; simp [go_sem, n_0, n_1, n_2]
    have x_1 : Wf.cell? ⟨w.heap.size + 1, 1, none⟩ = some (.slice ub un uc) := by rw [hWf]; simp [go_sem, n_0, n_1, n_2]
    have x_2 : Wf.cell? ⟨w.heap.size + 1, 2, none⟩ = some (.int .i64 ((b3.toNat : Int) - 48)) := by rw [hWf]; simp [go_sem, n_0, n_1, n_2]
    replace k_0 : Wf.cell? ⟨w.heap.size, 0, none⟩ = some (.string (ByteArray.mk #[])) := by rw [hWf]; exact cell_setD (cell_setD (cell_setD k_0 (by simp only []; omega)) (by simp only []; omega)) (by simp only []; omega)
    replace k_1 : Wf.cell? ⟨w.heap.size, 1, none⟩ = some (.slice none 0 0) := by rw [hWf]; exact cell_setD (cell_setD (cell_setD k_1 (by simp only []; omega)) (by simp only []; omega)) (by simp only []; omega)
    replace k_2 : Wf.cell? ⟨w.heap.size, 2, none⟩ = some (.int .i64 0) := by rw [hWf]; exact cell_setD (cell_setD (cell_setD k_2 (by simp only []; omega)) (by simp only []; omega)) (by simp only []; omega)
    replace k_f0 : Wf.frozen? ⟨w.heap.size, 0, none⟩ = false := by rw [hWf]; simp [go_sem, k_f0]
    replace k_f1 : Wf.frozen? ⟨w.heap.size, 1, none⟩ = false := by rw [hWf]; simp [go_sem, k_f1]
    replace k_f2 : Wf.frozen? ⟨w.heap.size, 2, none⟩ = false := by rw [hWf]; simp [go_sem, k_f2]
    have sf : Wf.heap.size = wA.heap.size := by rw [hWf]; simp [World.setCell]
    have hbF : Below w.heap.size w Wf := by
      rw [hWf]
      repeat (refine Below.setCell ?_ (by simp only []; omega) _)
      exact hbY
    have oF : Own oI (w.heap.size + 1) Wf.heap.size Wf [.slice ub un uc] (vals [b1]) := by
      rw [hWf]
      refine Own.mono (lo := wX.heap.size) (hi := wA.heap.size) ?_ (by omega) (by simp [World.setCell])
      repeat (refine Own.setOut ?_ rfl (by simp only []; omega))
      exact oA
    clear hWf oA n_0 n_1 n_2 n_f0 n_f1 n_f2
    have HOF := Lib.hid oF
    clear oF e8 e9 e8q e9q
    go_wp2_with fail
    refine (fmtDp_spec _ (bs [b0], vals [b1], (b3.toNat : Int) - 48) _ (rDp_mk (by simp [bs_size]) (HOF.out.rd reads_I) (show I64 ((b3.toNat : Int) - 48) by unfold I64; omega)) (by simp [vals_len])).mono ?_
    rintro e w3 ⟨rfl, z3⟩
    have s3 := z3.size
    have hb3 := on hbF z3
    have o3 := HOF.out.below z3 (Nat.le_refl _)
    replace x_0 := (z3.cell (p := ⟨w.heap.size + 1, 0, none⟩) (by simp only []; omega)).trans x_0
    replace x_1 := (z3.cell (p := ⟨w.heap.size + 1, 1, none⟩) (by simp only []; omega)).trans x_1
    replace x_2 := (z3.cell (p := ⟨w.heap.size + 1, 2, none⟩) (by simp only []; omega)).trans x_2
    replace k_0 := (z3.cell (p := ⟨w.heap.size, 0, none⟩) (by simp only []; omega)).trans k_0
    replace k_1 := (z3.cell (p := ⟨w.heap.size, 1, none⟩) (by simp only []; omega)).trans k_1
    replace k_2 := (z3.cell (p := ⟨w.heap.size, 2, none⟩) (by simp only []; omega)).trans k_2
    replace k_f0 := (z3.frozen (p := ⟨w.heap.size, 0, none⟩) (by simp only []; omega)).trans k_f0
    replace k_f1 := (z3.frozen (p := ⟨w.heap.size, 1, none⟩) (by simp only []; omega)).trans k_f1
    replace k_f2 := (z3.frozen (p := ⟨w.heap.size, 2, none⟩) (by simp only []; omega)).trans k_f2
    obtain ⟨F, hF⟩ : ∃ F, fmtDp (bs [b0], vals [b1], (b3.toNat : Int) - 48) = F := ⟨_, rfl⟩
    simp only [hF] at HP ⊢
    clear hF
    have hI : I64 ((b3.toNat : Int) - 48) := by unfold I64; omega
    by_cases hq : F = [b0, b1, b2, b3]
    · obtain rfl : P = some (bs [b0], vals [b1], (b3.toNat : Int) - 48) := by rw [HP.out, if_pos hq]
      subst hq
      have hB : bs [b0, b1, b2, b3] = ByteArray.mk #[b0, b1, b2, b3] := rfl
      rw [hB]
      have HO3 := Lib.hid o3
      clear HP hB o3 HOF HV
      go_wp2_with fail
      refine bodyPost_ret (v := .tuple #[.agg #[.string (bs [b0]), .slice ub un uc, .int .i64 ((b3.toNat : Int) - 48)], .bool true]) (by simp [results, Tryd.results22, go_sem, k_0, k_1, k_2, k_f0, k_f1, k_f2]) rfl ⟨[.string (bs [b0]), .slice ub un uc, .int .i64 ((b3.toNat : Int) - 48)], rfl, ?_, ?_⟩
      · refine Own.mono (lo := w.heap.size + 1) (hi := w3.heap.size) ?_ (by omega) (by simp [World.setCell])
        repeat (refine Own.setOut ?_ rfl (by simp only []; omega))
        exact oDp_mk (x := (bs [b0], vals [b1], (b3.toNat : Int) - 48)) (by simp [bs_size]) HO3.out hI (by omega) (by omega)
      · repeat (refine Below.setCell ?_ (by simp only []; omega) _)
        exact hb3
    · obtain rfl : P = none := by rw [HP.out, if_neg hq]
      have hne : (F == [b0, b1, b2, b3]) = false := by rw [beq_eq_false_iff_ne]; exact hq
      clear HP hq o3 HOF HV
      go_wp2_with fail
      refine bodyPost_ret (v := .tuple #[.agg #[.string (ByteArray.mk #[]), .slice none 0 0, .int .i64 0], .bool false]) (by simp [results, Tryd.results22, go_sem, k_0, k_1, k_2, k_f0, k_f1, k_f2]) rfl ⟨[.string (ByteArray.mk #[]), .slice none 0 0, .int .i64 0], rfl, ?_, ?_⟩
      · refine Own.mono (lo := w.heap.size + 1) (hi := w3.heap.size) ?_ (by omega) (by simp [World.setCell])
        repeat (refine Own.setOut ?_ rfl (by simp only []; omega))
        exact oDp_mk (x := zeroDp) (by decide) (own_nil_S (B := w.heap.size + 1)) (show I64 0 by unfold I64; omega) (by omega) (by omega)
      · repeat (refine Below.setCell ?_ (by simp only []; omega) _)
        exact hb3

set_option maxRecDepth 100000 in
set_option maxHeartbeats 4000000 in
theorem parDp_spec5 (b0 b1 b2 b3 b4 : UInt8) (w : World) :
    Calls Tryd.prog 22 #[.string (ByteArray.mk #[b0, b1, b2, b3, b4])] w fun e w' => ∃ cs, e = .returned (.tuple #[.agg cs.toArray, .bool (parDpL [b0, b1, b2, b3, b4]).isSome]) ∧ Own oDp w.heap.size w'.heap.size w' cs ((parDpL [b0, b1, b2, b3, b4]).getD zeroDp) ∧ Below w.heap.size w w' := by
  have HP : Hid (parDpL [b0, b1, b2, b3, b4] = if fmtDp (bs [b0], vals [b1, b2], (b4.toNat : Int) - 48) = [b0, b1, b2, b3, b4] then some (bs [b0], vals [b1, b2], (b4.toNat : Int) - 48) else none) := Lib.hid (by
    show (if _ then _ else _) = _
    simp [rawDp])
  obtain ⟨P, hP⟩ : ∃ P, parDpL [b0, b1, b2, b3, b4] = P := ⟨_, rfl⟩
  rw [hP] at HP ⊢
  clear hP
  have HV : Hid (∀ W, Calls Tryd.prog 69 #[.string (bs [b1, b2])] W fun e w' => ∃ u, e = .returned u ∧ Own oI W.heap.size w'.heap.size w' [u] (vals [b1, b2]) ∧ Below W.heap.size W w') := Lib.hid (fun W => l4Values_any (bs [b1, b2]) W (by simp [bs_size]))
  go_enter Tryd.func22, Tryd.ntmps22
  obtain ⟨w1, hw1⟩ : ∃ W, W = w.alloc (.cells #[.string (ByteArray.mk #[]), .slice none 0 0, .int .i64 0] 38) := ⟨_, rfl⟩
  have hb1 : Below w.heap.size w w1 := by rw [hw1]; exact (Below.refl _ _).alloc (Nat.le_refl _) _
  have s1 : w1.heap.size = w.heap.size + 1 := by rw [hw1]; simp
  have r_0 : w1.cell? ⟨w.heap.size, 0, none⟩ = some (.string (ByteArray.mk #[])) := by rw [hw1]; exact box_cell (Below.refl _ _) rfl
  have r_1 : w1.cell? ⟨w.heap.size, 1, none⟩ = some (.slice none 0 0) := by rw [hw1]; exact box_cell (Below.refl _ _) rfl
  have r_2 : w1.cell? ⟨w.heap.size, 2, none⟩ = some (.int .i64 0) := by rw [hw1]; exact box_cell (Below.refl _ _) rfl
  have f_0 : w1.frozen? ⟨w.heap.size, 0, none⟩ = false := by rw [hw1]; exact box_frozen (Below.refl _ _)
  have f_1 : w1.frozen? ⟨w.heap.size, 1, none⟩ = false := by rw [hw1]; exact box_frozen (Below.refl _ _)
  have f_2 : w1.frozen? ⟨w.heap.size, 2, none⟩ = false := by rw [hw1]; exact box_frozen (Below.refl _ _)
  go_wp2_with fail
  rw [← hw1]
  clear hw1
  have h9 := b4.toNat_lt
  have e8 : wrap64 (b4.toNat : Int) = (b4.toNat : Int) := by unfold wrap64; omega
  have e9 : wrap64 ((b4.toNat : Int) - 48) = (b4.toNat : Int) - 48 := by unfold wrap64; omega
  have e8q : IntKind.i64.wrap (b4.toNat : Int) = (b4.toNat : Int) := IntWalk.i64_in _ (by omega)
  have e9q : IntKind.i64.wrap ((b4.toNat : Int) - 48) = (b4.toNat : Int) - 48 := IntWalk.i64_in _ (by omega)
  refine wp_region_noPanic ?_
  refine wp_region_held_drew (S := (fun W => True)) (by kernel_rfl) ?hS2 (fun hHeld => ?_)
  case hS2 => trivial
  refine wpAnyH_take (i := 0) (v := ?v0d5) rfl (by kernel_rfl) (by kernel_rfl) (by kernel_rfl) (fun _ _ _ h => h) (Or.inl ⟨by rfl, ?hy0d5⟩) (by assumption) ?rest0d5
  case hy0d5 => intro w hSw; (try dsimp only at hSw); go_simp; (try (first | (with_reducible rfl) | rfl | exact e8q | exact e9q))
  try simp only [Act.put, List.getElem_toArray, List.getElem_cons_succ, List.getElem_cons_zero, List.setIfInBounds_toArray, List.set_cons_zero, List.set_cons_succ]
  refine wpAnyH_take (i := 1) (v := .string (bs [b0])) rfl (by kernel_rfl) (by kernel_rfl) (by kernel_rfl) (fun _ _ _ h => h) (Or.inl ⟨by rfl, ?hy1d5⟩) (by assumption) ?rest1d5
  case hy1d5 => intro w hSw; (try dsimp only at hSw); go_simp; (try (first | (with_reducible rfl) | rfl | exact e8q | exact e9q))
  try simp only [Act.put, List.getElem_toArray, List.getElem_cons_succ, List.getElem_cons_zero, List.setIfInBounds_toArray, List.set_cons_zero, List.set_cons_succ]
  refine wpAnyH_take (i := 2) (v := ?v2d5) rfl (by kernel_rfl) (by kernel_rfl) (by kernel_rfl) (fun _ _ _ h => h) (Or.inl ⟨by rfl, ?hy2d5⟩) (by assumption) ?rest2d5
  case hy2d5 => intro w hSw; (try dsimp only at hSw); go_simp; (try (first | (with_reducible rfl) | rfl | exact e8q | exact e9q))
  try simp only [Act.put, List.getElem_toArray, List.getElem_cons_succ, List.getElem_cons_zero, List.setIfInBounds_toArray, List.set_cons_zero, List.set_cons_succ]
  refine wpAnyH_take (i := 3) (v := ?v3d5) rfl (by kernel_rfl) (by kernel_rfl) (by kernel_rfl) (fun _ _ _ h => h) (Or.inl ⟨by rfl, ?hy3d5⟩) (by assumption) ?rest3d5
  case hy3d5 => intro w hSw; (try dsimp only at hSw); go_simp; (try (first | (with_reducible rfl) | rfl | exact e8q | exact e9q))
  try simp only [Act.put, List.getElem_toArray, List.getElem_cons_succ, List.getElem_cons_zero, List.setIfInBounds_toArray, List.set_cons_zero, List.set_cons_succ]
  refine wpAnyH_take (i := 4) (v := ?v4d5) rfl (by kernel_rfl) (by kernel_rfl) (by kernel_rfl) (fun _ _ _ h => h) (Or.inl ⟨by rfl, ?hy4d5⟩) (by assumption) ?rest4d5
  case hy4d5 => intro w hSw; (try dsimp only at hSw); go_simp; (try (first | (with_reducible rfl) | rfl | exact e8q | exact e9q))
  try simp only [Act.put, List.getElem_toArray, List.getElem_cons_succ, List.getElem_cons_zero, List.setIfInBounds_toArray, List.set_cons_zero, List.set_cons_succ]
  refine wpAnyH_take (i := 5) (v := ?v5d5) rfl (by kernel_rfl) (by kernel_rfl) (by kernel_rfl) (fun _ _ _ h => h) (Or.inl ⟨by rfl, ?hy5d5⟩) (by assumption) ?rest5d5
  case hy5d5 => intro w hSw; (try dsimp only at hSw); go_simp; (try (first | (with_reducible rfl) | rfl | exact e8q | exact e9q))
  try simp only [Act.put, List.getElem_toArray, List.getElem_cons_succ, List.getElem_cons_zero, List.setIfInBounds_toArray, List.set_cons_zero, List.set_cons_succ]
  refine wpAnyH_take (i := 6) (v := .string (bs [b1, b2])) rfl (by kernel_rfl) (by kernel_rfl) (by kernel_rfl) (fun _ _ _ h => h) (Or.inl ⟨by rfl, ?hy6d5⟩) (by assumption) ?rest6d5
  case hy6d5 => intro w hSw; (try dsimp only at hSw); go_simp; (try (first | (with_reducible rfl) | rfl | exact e8q | exact e9q))
  try simp only [Act.put, List.getElem_toArray, List.getElem_cons_succ, List.getElem_cons_zero, List.setIfInBounds_toArray, List.set_cons_zero, List.set_cons_succ]
  refine wpAnyH_take (i := 8) (v := ?v8d5) rfl (by kernel_rfl) (by kernel_rfl) (by kernel_rfl) (fun _ _ _ h => h) (Or.inl ⟨by rfl, ?hy8d5⟩) (by assumption) ?rest8d5
  case hy8d5 => intro w hSw; (try dsimp only at hSw); go_simp; (try (first | (with_reducible rfl) | rfl | exact e8q | exact e9q))
  try simp only [Act.put, List.getElem_toArray, List.getElem_cons_succ, List.getElem_cons_zero, List.setIfInBounds_toArray, List.set_cons_zero, List.set_cons_succ]
  refine wpAnyH_take (i := 9) (v := ?v9d5) rfl (by kernel_rfl) (by kernel_rfl) (by kernel_rfl) (fun _ _ _ h => h) (Or.inl ⟨by rfl, ?hy9d5⟩) (by assumption) ?rest9d5
  case hy9d5 => intro w hSw; (try dsimp only at hSw); go_simp; (try (first | (with_reducible rfl) | rfl | exact e8q | exact e9q))
  try simp only [Act.put, List.getElem_toArray, List.getElem_cons_succ, List.getElem_cons_zero, List.setIfInBounds_toArray, List.set_cons_zero, List.set_cons_succ]
  refine wpAnyH_take (i := 10) (v := ?v10d5) rfl (by kernel_rfl) (by kernel_rfl) (by kernel_rfl) (fun _ _ _ h => h) (Or.inl ⟨by rfl, ?hy10d5⟩) (by assumption) ?rest10d5
  case hy10d5 => intro w hSw; (try dsimp only at hSw); go_simp; (try (first | (with_reducible rfl) | rfl | exact e8q | exact e9q))
  try simp only [Act.put, List.getElem_toArray, List.getElem_cons_succ, List.getElem_cons_zero, List.setIfInBounds_toArray, List.set_cons_zero, List.set_cons_succ]
  refine wpAnyH_take (i := 11) (v := ?v11d5) rfl (by kernel_rfl) (by kernel_rfl) (by kernel_rfl) (fun _ _ _ h => h) (Or.inl ⟨by rfl, ?hy11d5⟩) (by assumption) ?rest11d5
  case hy11d5 => intro w hSw; (try dsimp only at hSw); go_simp; (try (first | (with_reducible rfl) | rfl | exact e8q | exact e9q))
  try simp only [Act.put, List.getElem_toArray, List.getElem_cons_succ, List.getElem_cons_zero, List.setIfInBounds_toArray, List.set_cons_zero, List.set_cons_succ]
  refine wpAnyH_take (i := 12) (v := .int .u8 (b4.toNat : Int)) rfl (by kernel_rfl) (by kernel_rfl) (by kernel_rfl) (fun _ _ _ h => h) (Or.inl ⟨by rfl, ?hy12d5⟩) (by assumption) ?rest12d5
  case hy12d5 => intro w hSw; (try dsimp only at hSw); go_simp; (try (first | (with_reducible rfl) | rfl | exact e8q | exact e9q))
  try simp only [Act.put, List.getElem_toArray, List.getElem_cons_succ, List.getElem_cons_zero, List.setIfInBounds_toArray, List.set_cons_zero, List.set_cons_succ]
  refine wpAnyH_take (i := 13) (v := .int .i64 (b4.toNat : Int)) rfl (by kernel_rfl) (by kernel_rfl) (by kernel_rfl) (fun _ _ _ h => h) (Or.inl ⟨by rfl, ?hy13d5⟩) (by assumption) ?rest13d5
  case hy13d5 => intro w hSw; (try dsimp only at hSw); go_simp; (try (first | (with_reducible rfl) | rfl | exact e8q | exact e9q))
  try simp only [Act.put, List.getElem_toArray, List.getElem_cons_succ, List.getElem_cons_zero, List.setIfInBounds_toArray, List.set_cons_zero, List.set_cons_succ]
  refine wpAnyH_take (i := 14) (v := .int .i64 ((b4.toNat : Int) - 48)) rfl (by kernel_rfl) (by kernel_rfl) (by kernel_rfl) (fun _ _ _ h => h) (Or.inl ⟨by rfl, ?hy14d5⟩) (by assumption) ?rest14d5
  case hy14d5 => intro w hSw; (try dsimp only at hSw); go_simp; (try (first | (with_reducible rfl) | rfl | exact e8q | exact e9q))
  try simp only [Act.put, List.getElem_toArray, List.getElem_cons_succ, List.getElem_cons_zero, List.setIfInBounds_toArray, List.set_cons_zero, List.set_cons_succ]
  refine wpAnyH_ready (rs := [7, 16]) (by kernel_rfl) (by simp) ?_
  refine AllReadyH.cons rfl (fun K hK => ?_) (AllReadyH.cons rfl (fun K hK => ?_) AllReadyH.nil)
  · skip
    go_simp
    refine (HV.out _).mono ?_
    rintro e wA ⟨u, rfl, oA, zA⟩
    obtain ⟨ub, un, uc, rfl⟩ := oI_form1 oA
    replace zA : Below w1.heap.size w1 wA := on (Below.refl _ _).drew zA
    have sA := zA.size
    refine hK.out _ _ ?_ (fun hHeld => ?_)
    · trivial
    clear hK K
    try simp only [Act.put, List.getElem_toArray, List.getElem_cons_succ, List.getElem_cons_zero, List.setIfInBounds_toArray, List.set_cons_zero, List.set_cons_succ]
    refine wpAnyH_take (i := 15) (v := ?v15a5) rfl (by kernel_rfl) (by kernel_rfl) (by kernel_rfl) (fun _ _ _ h => h) (Or.inl ⟨by rfl, ?hy15a5⟩) (by assumption) ?rest15a5
    case hy15a5 => intro w hSw; (try dsimp only at hSw); go_simp; (try (first | (with_reducible rfl) | rfl | exact e8q | exact e9q))
    try simp only [Act.put, List.getElem_toArray, List.getElem_cons_succ, List.getElem_cons_zero, List.setIfInBounds_toArray, List.set_cons_zero, List.set_cons_succ]
    refine wpAnyH_ready (rs := [16]) (by kernel_rfl) (by simp) ?_
    refine AllReadyH.cons rfl (fun K hK => ?_) AllReadyH.nil
    go_simp
    obtain ⟨wX, hX⟩ : ∃ W, W = wA.alloc (.cells #[.string (ByteArray.mk #[]), .slice none 0 0, .int .i64 0] 38) := ⟨_, rfl⟩
    have n_0 : wX.cell? ⟨wA.heap.size, 0, none⟩ = some (.string (ByteArray.mk #[])) := by rw [hX]; show (World.alloc wA _).cell? ⟨wA.heap.size, 0, none⟩ = _; exact box_cell (Below.refl _ _) rfl
    have n_1 : wX.cell? ⟨wA.heap.size, 1, none⟩ = some (.slice none 0 0) := by rw [hX]; show (World.alloc wA _).cell? ⟨wA.heap.size, 1, none⟩ = _; exact box_cell (Below.refl _ _) rfl
    have n_2 : wX.cell? ⟨wA.heap.size, 2, none⟩ = some (.int .i64 0) := by rw [hX]; show (World.alloc wA _).cell? ⟨wA.heap.size, 2, none⟩ = _; exact box_cell (Below.refl _ _) rfl
    have n_f0 : wX.frozen? ⟨wA.heap.size, 0, none⟩ = false := by rw [hX]; show (World.alloc wA _).frozen? ⟨wA.heap.size, 0, none⟩ = _; exact box_frozen (Below.refl _ _)
    have n_f1 : wX.frozen? ⟨wA.heap.size, 1, none⟩ = false := by rw [hX]; show (World.alloc wA _).frozen? ⟨wA.heap.size, 1, none⟩ = _; exact box_frozen (Below.refl _ _)
    have n_f2 : wX.frozen? ⟨wA.heap.size, 2, none⟩ = false := by rw [hX]; show (World.alloc wA _).frozen? ⟨wA.heap.size, 2, none⟩ = _; exact box_frozen (Below.refl _ _)
    have zX : Below wA.heap.size wA wX := by rw [hX]; exact (Below.refl _ _).alloc (Nat.le_refl _) _
    have zXq : wX.heap.size = wA.heap.size + 1 := by rw [hX]; simp
    rw [← hX]
    clear hX
    refine hK.out _ _ ?_ (fun hHeld => ?_)
    · trivial
    clear hK K
    try simp only [Act.put, List.getElem_toArray, List.getElem_cons_succ, List.getElem_cons_zero, List.setIfInBounds_toArray, List.set_cons_zero, List.set_cons_succ]
    have k_0 := ((on zA zX).cell (p := ⟨w.heap.size, 0, none⟩) (by simp only []; omega)).trans r_0
    have k_1 := ((on zA zX).cell (p := ⟨w.heap.size, 1, none⟩) (by simp only []; omega)).trans r_1
    have k_2 := ((on zA zX).cell (p := ⟨w.heap.size, 2, none⟩) (by simp only []; omega)).trans r_2
    have k_f0 := ((on zA zX).frozen (p := ⟨w.heap.size, 0, none⟩) (by simp only []; omega)).trans f_0
    have k_f1 := ((on zA zX).frozen (p := ⟨w.heap.size, 1, none⟩) (by simp only []; omega)).trans f_1
    have k_f2 := ((on zA zX).frozen (p := ⟨w.heap.size, 2, none⟩) (by simp only []; omega)).trans f_2
    have hbY := on (on hb1 zA) zX
    refine wpAnyH_ready (rs := [17]) (by kernel_rfl) (by simp) ?_
    refine AllReadyH.cons rfl (fun K hK => ?_) AllReadyH.nil
    go_simp
    obtain ⟨Wf, hWf⟩ : ∃ W, W = ((wX.setCell ⟨wA.heap.size, 0, none⟩ (.string (bs [b0]))).setCell ⟨wA.heap.size, 1, none⟩ (.slice ub un uc)).setCell ⟨wA.heap.size, 2, none⟩ (.int .i64 ((b4.toNat : Int) - 48)) := ⟨_, rfl⟩
    rw [← hWf]
    refine hK.out _ _ ?_ (fun hHeld => ?_)
    · trivial
    clear hK K
    try simp only [Act.put, List.getElem_toArray, List.getElem_cons_succ, List.getElem_cons_zero, List.setIfInBounds_toArray, List.set_cons_zero, List.set_cons_succ]
    refine wpAnyH_done (by kernel_rfl) ?_ _
    refine NoPanic.normal ?_
    have x_0 : Wf.cell? ⟨wA.heap.size, 0, none⟩ = some (.string (bs [b0])) := by rw [hWf]; simp [go_sem, n_0, n_1, n_2]
    have x_1 : Wf.cell? ⟨wA.heap.size, 1, none⟩ = some (.slice ub un uc) := by rw [hWf]; simp [go_sem, n_0, n_1, n_2]
    have x_2 : Wf.cell? ⟨wA.heap.size, 2, none⟩ = some (.int .i64 ((b4.toNat : Int) - 48)) := by rw [hWf]; simp [go_sem, n_0, n_1, n_2]
    replace k_0 : Wf.cell? ⟨w.heap.size, 0, none⟩ = some (.string (ByteArray.mk #[])) := by rw [hWf]; exact cell_setD (cell_setD (cell_setD k_0 (by simp only []; omega)) (by simp only []; omega)) (by simp only []; omega)
    replace k_1 : Wf.cell? ⟨w.heap.size, 1, none⟩ = some (.slice none 0 0) := by rw [hWf]; exact cell_setD (cell_setD (cell_setD k_1 (by simp only []; omega)) (by simp only []; omega)) (by simp only []; omega)
    replace k_2 : Wf.cell? ⟨w.heap.size, 2, none⟩ = some (.int .i64 0) := by rw [hWf]; exact cell_setD (cell_setD (cell_setD k_2 (by simp only []; omega)) (by simp only []; omega)) (by simp only []; omega)
    replace k_f0 : Wf.frozen? ⟨w.heap.size, 0, none⟩ = false := by rw [hWf]; simp [go_sem, k_f0]
    replace k_f1 : Wf.frozen? ⟨w.heap.size, 1, none⟩ = false := by rw [hWf]; simp [go_sem, k_f1]
    replace k_f2 : Wf.frozen? ⟨w.heap.size, 2, none⟩ = false := by rw [hWf]; simp [go_sem, k_f2]
    have sf : Wf.heap.size = wX.heap.size := by rw [hWf]; simp [World.setCell]
    have hbF : Below w.heap.size w Wf := by
      rw [hWf]
      repeat (refine Below.setCell ?_ (by simp only []; omega) _)
      exact hbY
    have oF : Own oI (w.heap.size + 1) Wf.heap.size Wf [.slice ub un uc] (vals [b1, b2]) := by
      have zF : Below wA.heap.size wA Wf := by
        rw [hWf]
        repeat (refine Below.setCell ?_ (by simp only []; omega) _)
        exact zX
      refine (oA.below zF (Nat.le_refl _)).mono ?_ (by omega)
      show w.heap.size + 1 ≤ w1.heap.size
      omega
    clear hWf oA n_0 n_1 n_2 n_f0 n_f1 n_f2
    have HOF := Lib.hid oF
    clear oF e8 e9 e8q e9q
    go_wp2_with fail
    refine (fmtDp_spec _ (bs [b0], vals [b1, b2], (b4.toNat : Int) - 48) _ (rDp_mk (by simp [bs_size]) (HOF.out.rd reads_I) (show I64 ((b4.toNat : Int) - 48) by unfold I64; omega)) (by simp [vals_len])).mono ?_
    rintro e w3 ⟨rfl, z3⟩
    have s3 := z3.size
    have hb3 := on hbF z3
    have o3 := HOF.out.below z3 (Nat.le_refl _)
    replace x_0 := (z3.cell (p := ⟨wA.heap.size, 0, none⟩) (by simp only []; omega)).trans x_0
    replace x_1 := (z3.cell (p := ⟨wA.heap.size, 1, none⟩) (by simp only []; omega)).trans x_1
    replace x_2 := (z3.cell (p := ⟨wA.heap.size, 2, none⟩) (by simp only []; omega)).trans x_2
    replace k_0 := (z3.cell (p := ⟨w.heap.size, 0, none⟩) (by simp only []; omega)).trans k_0
    replace k_1 := (z3.cell (p := ⟨w.heap.size, 1, none⟩) (by simp only []; omega)).trans k_1
    replace k_2 := (z3.cell (p := ⟨w.heap.size, 2, none⟩) (by simp only []; omega)).trans k_2
    replace k_f0 := (z3.frozen (p := ⟨w.heap.size, 0, none⟩) (by simp only []; omega)).trans k_f0
    replace k_f1 := (z3.frozen (p := ⟨w.heap.size, 1, none⟩) (by simp only []; omega)).trans k_f1
    replace k_f2 := (z3.frozen (p := ⟨w.heap.size, 2, none⟩) (by simp only []; omega)).trans k_f2
    obtain ⟨F, hF⟩ : ∃ F, fmtDp (bs [b0], vals [b1, b2], (b4.toNat : Int) - 48) = F := ⟨_, rfl⟩
    simp only [hF] at HP ⊢
    clear hF
    have hI : I64 ((b4.toNat : Int) - 48) := by unfold I64; omega
    by_cases hq : F = [b0, b1, b2, b3, b4]
    · obtain rfl : P = some (bs [b0], vals [b1, b2], (b4.toNat : Int) - 48) := by rw [HP.out, if_pos hq]
      subst hq
      have hB : bs [b0, b1, b2, b3, b4] = ByteArray.mk #[b0, b1, b2, b3, b4] := rfl
      rw [hB]
      have HO3 := Lib.hid o3
      clear HP hB o3 HOF HV
      go_wp2_with fail
      refine bodyPost_ret (v := .tuple #[.agg #[.string (bs [b0]), .slice ub un uc, .int .i64 ((b4.toNat : Int) - 48)], .bool true]) (by simp [results, Tryd.results22, go_sem, k_0, k_1, k_2, k_f0, k_f1, k_f2]) rfl ⟨[.string (bs [b0]), .slice ub un uc, .int .i64 ((b4.toNat : Int) - 48)], rfl, ?_, ?_⟩
      · refine Own.mono (lo := w.heap.size + 1) (hi := w3.heap.size) ?_ (by omega) (by simp [World.setCell])
        repeat (refine Own.setOut ?_ rfl (by simp only []; omega))
        exact oDp_mk (x := (bs [b0], vals [b1, b2], (b4.toNat : Int) - 48)) (by simp [bs_size]) HO3.out hI (by omega) (by omega)
      · repeat (refine Below.setCell ?_ (by simp only []; omega) _)
        exact hb3
    · obtain rfl : P = none := by rw [HP.out, if_neg hq]
      have hne : (F == [b0, b1, b2, b3, b4]) = false := by rw [beq_eq_false_iff_ne]; exact hq
      clear HP hq o3 HOF HV
      go_wp2_with fail
      refine bodyPost_ret (v := .tuple #[.agg #[.string (ByteArray.mk #[]), .slice none 0 0, .int .i64 0], .bool false]) (by simp [results, Tryd.results22, go_sem, k_0, k_1, k_2, k_f0, k_f1, k_f2]) rfl ⟨[.string (ByteArray.mk #[]), .slice none 0 0, .int .i64 0], rfl, ?_, ?_⟩
      · refine Own.mono (lo := w.heap.size + 1) (hi := w3.heap.size) ?_ (by omega) (by simp [World.setCell])
        repeat (refine Own.setOut ?_ rfl (by simp only []; omega))
        exact oDp_mk (x := zeroDp) (by decide) (own_nil_S (B := w.heap.size + 1)) (show I64 0 by unfold I64; omega) (by omega) (by omega)
      · repeat (refine Below.setCell ?_ (by simp only []; omega) _)
        exact hb3
  · skip
    go_simp
    obtain ⟨wX, hX⟩ : ∃ W, W = (w1.alloc (.cells #[.string (ByteArray.mk #[]), .slice none 0 0, .int .i64 0] 38)).drew := ⟨_, rfl⟩
    have n_0 : wX.cell? ⟨w.heap.size + 1, 0, none⟩ = some (.string (ByteArray.mk #[])) := by rw [hX, ← s1]; show (World.alloc w1 _).cell? ⟨w1.heap.size, 0, none⟩ = _; exact box_cell (Below.refl _ _) rfl
    have n_1 : wX.cell? ⟨w.heap.size + 1, 1, none⟩ = some (.slice none 0 0) := by rw [hX, ← s1]; show (World.alloc w1 _).cell? ⟨w1.heap.size, 1, none⟩ = _; exact box_cell (Below.refl _ _) rfl
    have n_2 : wX.cell? ⟨w.heap.size + 1, 2, none⟩ = some (.int .i64 0) := by rw [hX, ← s1]; show (World.alloc w1 _).cell? ⟨w1.heap.size, 2, none⟩ = _; exact box_cell (Below.refl _ _) rfl
    have n_f0 : wX.frozen? ⟨w.heap.size + 1, 0, none⟩ = false := by rw [hX, ← s1]; show (World.alloc w1 _).frozen? ⟨w1.heap.size, 0, none⟩ = _; exact box_frozen (Below.refl _ _)
    have n_f1 : wX.frozen? ⟨w.heap.size + 1, 1, none⟩ = false := by rw [hX, ← s1]; show (World.alloc w1 _).frozen? ⟨w1.heap.size, 1, none⟩ = _; exact box_frozen (Below.refl _ _)
    have n_f2 : wX.frozen? ⟨w.heap.size + 1, 2, none⟩ = false := by rw [hX, ← s1]; show (World.alloc w1 _).frozen? ⟨w1.heap.size, 2, none⟩ = _; exact box_frozen (Below.refl _ _)
    have zX : Below w1.heap.size w1 wX := by rw [hX]; exact ((Below.refl _ _).alloc (Nat.le_refl _) _).drew
    have zXq : wX.heap.size = w.heap.size + 1 + 1 := by rw [hX]; simp [s1]
    rw [← hX]
    clear hX
    refine hK.out _ _ ?_ (fun hHeld => ?_)
    · trivial
    clear hK K
    try simp only [Act.put, List.getElem_toArray, List.getElem_cons_succ, List.getElem_cons_zero, List.setIfInBounds_toArray, List.set_cons_zero, List.set_cons_succ]
    refine wpAnyH_ready (rs := [7]) (by kernel_rfl) (by simp) ?_
    refine AllReadyH.cons rfl (fun K hK => ?_) AllReadyH.nil
    go_simp
    refine (HV.out _).mono ?_
    rintro e wA ⟨u, rfl, oA, zA⟩
    obtain ⟨ub, un, uc, rfl⟩ := oI_form1 oA
    skip
    have sA := zA.size
    refine hK.out _ _ ?_ (fun hHeld => ?_)
    · trivial
    clear hK K
    try simp only [Act.put, List.getElem_toArray, List.getElem_cons_succ, List.getElem_cons_zero, List.setIfInBounds_toArray, List.set_cons_zero, List.set_cons_succ]
    refine wpAnyH_take (i := 15) (v := ?v15b5) rfl (by kernel_rfl) (by kernel_rfl) (by kernel_rfl) (fun _ _ _ h => h) (Or.inl ⟨by rfl, ?hy15b5⟩) (by assumption) ?rest15b5
    case hy15b5 => intro w hSw; (try dsimp only at hSw); go_simp; (try (first | (with_reducible rfl) | rfl | exact e8q | exact e9q))
    try simp only [Act.put, List.getElem_toArray, List.getElem_cons_succ, List.getElem_cons_zero, List.setIfInBounds_toArray, List.set_cons_zero, List.set_cons_succ]
    replace n_0 := (zA.cell (p := ⟨w.heap.size + 1, 0, none⟩) (by simp only []; omega)).trans n_0
    replace n_1 := (zA.cell (p := ⟨w.heap.size + 1, 1, none⟩) (by simp only []; omega)).trans n_1
    replace n_2 := (zA.cell (p := ⟨w.heap.size + 1, 2, none⟩) (by simp only []; omega)).trans n_2
    replace n_f0 := (zA.frozen (p := ⟨w.heap.size + 1, 0, none⟩) (by simp only []; omega)).trans n_f0
    replace n_f1 := (zA.frozen (p := ⟨w.heap.size + 1, 1, none⟩) (by simp only []; omega)).trans n_f1
    replace n_f2 := (zA.frozen (p := ⟨w.heap.size + 1, 2, none⟩) (by simp only []; omega)).trans n_f2
    have zB : Below w1.heap.size w1 wX := zX
    have k_0 := ((on zB zA).cell (p := ⟨w.heap.size, 0, none⟩) (by simp only []; omega)).trans r_0
    have k_1 := ((on zB zA).cell (p := ⟨w.heap.size, 1, none⟩) (by simp only []; omega)).trans r_1
    have k_2 := ((on zB zA).cell (p := ⟨w.heap.size, 2, none⟩) (by simp only []; omega)).trans r_2
    have k_f0 := ((on zB zA).frozen (p := ⟨w.heap.size, 0, none⟩) (by simp only []; omega)).trans f_0
    have k_f1 := ((on zB zA).frozen (p := ⟨w.heap.size, 1, none⟩) (by simp only []; omega)).trans f_1
    have k_f2 := ((on zB zA).frozen (p := ⟨w.heap.size, 2, none⟩) (by simp only []; omega)).trans f_2
    have hbY := on (on hb1 zB) zA
    refine wpAnyH_ready (rs := [17]) (by kernel_rfl) (by simp) ?_
    refine AllReadyH.cons rfl (fun K hK => ?_) AllReadyH.nil
    go_simp
    obtain ⟨Wf, hWf⟩ : ∃ W, W = ((wA.setCell ⟨w.heap.size + 1, 0, none⟩ (.string (bs [b0]))).setCell ⟨w.heap.size + 1, 1, none⟩ (.slice ub un uc)).setCell ⟨w.heap.size + 1, 2, none⟩ (.int .i64 ((b4.toNat : Int) - 48)) := ⟨_, rfl⟩
    rw [← hWf]
    refine hK.out _ _ ?_ (fun hHeld => ?_)
    · trivial
    clear hK K
    try simp only [Act.put, List.getElem_toArray, List.getElem_cons_succ, List.getElem_cons_zero, List.setIfInBounds_toArray, List.set_cons_zero, List.set_cons_succ]
    refine wpAnyH_done (by kernel_rfl) ?_ _
    refine NoPanic.normal ?_
    have x_0 : Wf.cell? ⟨w.heap.size + 1, 0, none⟩ = some (.string (bs [b0])) := by rw [hWf]; simp [go_sem, n_0, n_1, n_2]
    have x_1 : Wf.cell? ⟨w.heap.size + 1, 1, none⟩ = some (.slice ub un uc) := by rw [hWf]; simp [go_sem, n_0, n_1, n_2]
    have x_2 : Wf.cell? ⟨w.heap.size + 1, 2, none⟩ = some (.int .i64 ((b4.toNat : Int) - 48)) := by rw [hWf]; simp [go_sem, n_0, n_1, n_2]
    replace k_0 : Wf.cell? ⟨w.heap.size, 0, none⟩ = some (.string (ByteArray.mk #[])) := by rw [hWf]; exact cell_setD (cell_setD (cell_setD k_0 (by simp only []; omega)) (by simp only []; omega)) (by simp only []; omega)
    replace k_1 : Wf.cell? ⟨w.heap.size, 1, none⟩ = some (.slice none 0 0) := by rw [hWf]; exact cell_setD (cell_setD (cell_setD k_1 (by simp only []; omega)) (by simp only []; omega)) (by simp only []; omega)
    replace k_2 : Wf.cell? ⟨w.heap.size, 2, none⟩ = some (.int .i64 0) := by rw [hWf]; exact cell_setD (cell_setD (cell_setD k_2 (by simp only []; omega)) (by simp only []; omega)) (by simp only []; omega)
    replace k_f0 : Wf.frozen? ⟨w.heap.size, 0, none⟩ = false := by rw [hWf]; simp [go_sem, k_f0]
    replace k_f1 : Wf.frozen? ⟨w.heap.size, 1, none⟩ = false := by rw [hWf]; simp [go_sem, k_f1]
    replace k_f2 : Wf.frozen? ⟨w.heap.size, 2, none⟩ = false := by rw [hWf]; simp [go_sem, k_f2]
    have sf : Wf.heap.size = wA.heap.size := by rw [hWf]; simp [World.setCell]
    have hbF : Below w.heap.size w Wf := by
      rw [hWf]
      repeat (refine Below.setCell ?_ (by simp only []; omega) _)
      exact hbY
    have oF : Own oI (w.heap.size + 1) Wf.heap.size Wf [.slice ub un uc] (vals [b1, b2]) := by
      rw [hWf]
      refine Own.mono (lo := wX.heap.size) (hi := wA.heap.size) ?_ (by omega) (by simp [World.setCell])
      repeat (refine Own.setOut ?_ rfl (by simp only []; omega))
      exact oA
    clear hWf oA n_0 n_1 n_2 n_f0 n_f1 n_f2
    have HOF := Lib.hid oF
    clear oF e8 e9 e8q e9q
    go_wp2_with fail
    refine (fmtDp_spec _ (bs [b0], vals [b1, b2], (b4.toNat : Int) - 48) _ (rDp_mk (by simp [bs_size]) (HOF.out.rd reads_I) (show I64 ((b4.toNat : Int) - 48) by unfold I64; omega)) (by simp [vals_len])).mono ?_
    rintro e w3 ⟨rfl, z3⟩
    have s3 := z3.size
    have hb3 := on hbF z3
    have o3 := HOF.out.below z3 (Nat.le_refl _)
    replace x_0 := (z3.cell (p := ⟨w.heap.size + 1, 0, none⟩) (by simp only []; omega)).trans x_0
    replace x_1 := (z3.cell (p := ⟨w.heap.size + 1, 1, none⟩) (by simp only []; omega)).trans x_1
    replace x_2 := (z3.cell (p := ⟨w.heap.size + 1, 2, none⟩) (by simp only []; omega)).trans x_2
    replace k_0 := (z3.cell (p := ⟨w.heap.size, 0, none⟩) (by simp only []; omega)).trans k_0
    replace k_1 := (z3.cell (p := ⟨w.heap.size, 1, none⟩) (by simp only []; omega)).trans k_1
    replace k_2 := (z3.cell (p := ⟨w.heap.size, 2, none⟩) (by simp only []; omega)).trans k_2
    replace k_f0 := (z3.frozen (p := ⟨w.heap.size, 0, none⟩) (by simp only []; omega)).trans k_f0
    replace k_f1 := (z3.frozen (p := ⟨w.heap.size, 1, none⟩) (by simp only []; omega)).trans k_f1
    replace k_f2 := (z3.frozen (p := ⟨w.heap.size, 2, none⟩) (by simp only []; omega)).trans k_f2
    obtain ⟨F, hF⟩ : ∃ F, fmtDp (bs [b0], vals [b1, b2], (b4.toNat : Int) - 48) = F := ⟨_, rfl⟩
    simp only [hF] at HP ⊢
    clear hF
    have hI : I64 ((b4.toNat : Int) - 48) := by unfold I64; omega
    by_cases hq : F = [b0, b1, b2, b3, b4]
    · obtain rfl : P = some (bs [b0], vals [b1, b2], (b4.toNat : Int) - 48) := by rw [HP.out, if_pos hq]
      subst hq
      have hB : bs [b0, b1, b2, b3, b4] = ByteArray.mk #[b0, b1, b2, b3, b4] := rfl
      rw [hB]
      have HO3 := Lib.hid o3
      clear HP hB o3 HOF HV
      go_wp2_with fail
      refine bodyPost_ret (v := .tuple #[.agg #[.string (bs [b0]), .slice ub un uc, .int .i64 ((b4.toNat : Int) - 48)], .bool true]) (by simp [results, Tryd.results22, go_sem, k_0, k_1, k_2, k_f0, k_f1, k_f2]) rfl ⟨[.string (bs [b0]), .slice ub un uc, .int .i64 ((b4.toNat : Int) - 48)], rfl, ?_, ?_⟩
      · refine Own.mono (lo := w.heap.size + 1) (hi := w3.heap.size) ?_ (by omega) (by simp [World.setCell])
        repeat (refine Own.setOut ?_ rfl (by simp only []; omega))
        exact oDp_mk (x := (bs [b0], vals [b1, b2], (b4.toNat : Int) - 48)) (by simp [bs_size]) HO3.out hI (by omega) (by omega)
      · repeat (refine Below.setCell ?_ (by simp only []; omega) _)
        exact hb3
    · obtain rfl : P = none := by rw [HP.out, if_neg hq]
      have hne : (F == [b0, b1, b2, b3, b4]) = false := by rw [beq_eq_false_iff_ne]; exact hq
      clear HP hq o3 HOF HV
      go_wp2_with fail
      refine bodyPost_ret (v := .tuple #[.agg #[.string (ByteArray.mk #[]), .slice none 0 0, .int .i64 0], .bool false]) (by simp [results, Tryd.results22, go_sem, k_0, k_1, k_2, k_f0, k_f1, k_f2]) rfl ⟨[.string (ByteArray.mk #[]), .slice none 0 0, .int .i64 0], rfl, ?_, ?_⟩
      · refine Own.mono (lo := w.heap.size + 1) (hi := w3.heap.size) ?_ (by omega) (by simp [World.setCell])
        repeat (refine Own.setOut ?_ rfl (by simp only []; omega))
        exact oDp_mk (x := zeroDp) (by decide) (own_nil_S (B := w.heap.size + 1)) (show I64 0 by unfold I64; omega) (by omega) (by omega)
      · repeat (refine Below.setCell ?_ (by simp only []; omega) _)
        exact hb3

end Go.Proofs.YtigcagplbihenaaDoor

/- Contracts: dependencies out of texts, both ways. -/
namespace Go.Proofs.YtigcagplbihenaaDoor
open Go.RowKit
set_option linter.unusedVariables false
set_option linter.unusedSimpArgs false
set_option synthInstance.maxSize 2000
set_option synthInstance.maxHeartbeats 400000

theorem list3 {l : List UInt8} (h : l.length = 3) : ∃ a b c, l = [a, b, c] := by
  match l, h with
  | [a, b, c], _ => exact ⟨a, b, c, rfl⟩
theorem list4 {l : List UInt8} (h : l.length = 4) : ∃ a b c d, l = [a, b, c, d] := by
  match l, h with
  | [a, b, c, d], _ => exact ⟨a, b, c, d, rfl⟩
theorem parDp_zero {lo hi : Nat} {w : World} (h : lo ≤ hi) : Own oDp lo hi w [.string (ByteArray.mk #[]), .slice none 0 0, .int .i64 0] zeroDp :=
  oDp_mk (x := zeroDp) (by decide) (own_nil_S (B := lo)) (show I64 0 by unfold I64; omega) (Nat.le_refl _) h

set_option maxRecDepth 100000 in
set_option maxHeartbeats 2000000 in
theorem parDp_spec (s : ByteArray) (w : World) (hs : s.size ≤ 1048576) :
    Calls Tryd.prog 22 #[.string s] w fun e w' => ∃ cs, e = .returned (.tuple #[.agg cs.toArray, .bool (parDp s).isSome]) ∧ Own oDp w.heap.size w'.heap.size w' cs ((parDp s).getD zeroDp) ∧ Below w.heap.size w w' := by
  have hl : s.data.toList.length = s.size := by simp
  by_cases h3 : s.size = 3
  · obtain ⟨b0, b1, b2, he⟩ := list3 (hl.trans h3)
    have := parDp_spec3 b0 b1 b2 w
    have e : s = ByteArray.mk #[b0, b1, b2] := by rw [← bs_of' s, he]
    rw [← e] at this
    unfold parDp
    rw [he]
    exact this
  by_cases h4 : s.size = 4
  · obtain ⟨b0, b1, b2, b3, he⟩ := list4 (hl.trans h4)
    have := parDp_spec4 b0 b1 b2 b3 w
    have e : s = ByteArray.mk #[b0, b1, b2, b3] := by rw [← bs_of' s, he]
    rw [← e] at this
    unfold parDp
    rw [he]
    exact this
  by_cases h5 : s.size = 5
  · obtain ⟨b0, b1, b2, b3, b4, he⟩ := list5 (hl.trans h5)
    have := parDp_spec5 b0 b1 b2 b3 b4 w
    have e : s = ByteArray.mk #[b0, b1, b2, b3, b4] := by rw [← bs_of' s, he]
    rw [← e] at this
    unfold parDp
    rw [he]
    exact this
  have hN : parDp s = none := by
    unfold parDp parDpL
    rw [if_neg (by omega)]
  rw [hN]
  clear hN hl
  rcases (by omega : s.size < 3 ∨ 5 < s.size) with h | h
  · go_enter Tryd.func22, Tryd.ntmps22
    go_wp2_with fail
    refine bodyPost_ret (v := .tuple #[.agg #[.string (ByteArray.mk #[]), .slice none 0 0, .int .i64 0], .bool false]) (by simp [results, Tryd.results22, go_sem]) rfl ⟨[.string (ByteArray.mk #[]), .slice none 0 0, .int .i64 0], rfl, ?_, ?_⟩
    · exact parDp_zero (by simp)
    · repeat (refine Below.setCell ?_ (by simp only []; omega) _)
      exact (Below.refl _ _).alloc (Nat.le_refl _) _
  · have h9 : ¬ s.size < 3 := by omega
    go_enter Tryd.func22, Tryd.ntmps22
    go_wp2_with fail
    refine bodyPost_ret (v := .tuple #[.agg #[.string (ByteArray.mk #[]), .slice none 0 0, .int .i64 0], .bool false]) (by simp [results, Tryd.results22, go_sem]) rfl ⟨[.string (ByteArray.mk #[]), .slice none 0 0, .int .i64 0], rfl, ?_, ?_⟩
    · exact parDp_zero (by simp)
    · repeat (refine Below.setCell ?_ (by simp only []; omega) _)
      exact (Below.refl _ _).alloc (Nat.le_refl _) _

theorem digs_len (l : List UInt8) : (digs? l).length ≤ l.length := by
  unfold digs?
  split
  · rw [vals_len]; exact Nat.le_refl _
  · simp
theorem bs_take1 (x : UInt8) (r : List UInt8) : (bs (x :: r)).extract 0 1 = bs [x] := by
  apply ByteArray.ext
  simp [bs]
theorem bs_drop1 (x : UInt8) (r : List UInt8) (n : Nat) (h : n = r.length + 1) : (bs (x :: r)).extract 1 n = bs r := by
  subst h
  apply ByteArray.ext
  simp [bs]

set_option maxRecDepth 100000 in
set_option maxHeartbeats 2000000 in
theorem parDp_impl (s : ByteArray) (w : World) (hs : s.size ≤ 1048576) (hm : ∃ m, w.cell? ⟨0, 0, none⟩ = some (.int .i64 m)) :
    Calls Tryd.prog 23 #[.string s] w fun e w' => ∃ cs, e = .returned (.tuple #[.agg cs.toArray, .bool (parDp s).isSome]) ∧ Own oDp w.heap.size w'.heap.size w' cs ((parDp s).getD zeroDp) ∧ Below w.heap.size w w' := by
  obtain ⟨m, hm⟩ := hm
  have hm0 := cell_lt hm
  obtain ⟨sl, rfl⟩ : ∃ sl, s = bs sl := ⟨_, (bs_of' s).symm⟩
  have hE := Lib.hid (par_early (l := sl))
  have hL := Lib.hid (par_late (l := sl))
  obtain ⟨P, hP⟩ : ∃ P, parDp (bs sl) = P := ⟨_, rfl⟩
  have hP' : parDpL sl = P := hP
  rw [hP'] at hE hL
  rw [hP]
  have HC : Hid (∀ W, W.cell? ⟨0, 0, none⟩ = some (.int .i64 m) → Calls Tryd.prog 70 #[.string (bs sl), .string (ByteArray.mk #[62])] W fun e w' => e = .returned (.tuple #[.string (bs (Lib.cut sl [62]).1), .string (bs (Lib.cut sl [62]).2.1), .bool (Lib.cut sl [62]).2.2]) ∧ ∃ n, w' = W.drewN n) := Lib.hid (fun W h => Tryd.strings_Cut (bs sl) (ByteArray.mk #[62]) m W (by omega) h)
  have hcl : (Lib.cut sl [62]).1.length ≤ sl.length := by
    unfold Lib.cut
    split
    · exact List.length_take_le' _ _
    · exact Nat.le_refl _
  obtain ⟨C, hC⟩ : ∃ C, Lib.cut sl [62] = C := ⟨_, rfl⟩
  obtain ⟨A, T, cf⟩ := C
  rw [hC] at HC hE hL hcl
  have hAl : A.length ≤ 1048576 := by have : sl.length = (bs sl).size := (bs_size sl).symm
                                      simp only at hcl; omega
  simp only at HC hE hL
  clear hC hP hP' hcl
  go_enter Tryd.func23, Tryd.ntmps23
  obtain ⟨w1, hw1⟩ : ∃ W, W = w.alloc (.cells #[.string (ByteArray.mk #[]), .slice none 0 0, .int .i64 0] 38) := ⟨_, rfl⟩
  have hb1 : Below w.heap.size w w1 := by rw [hw1]; exact (Below.refl _ _).alloc (Nat.le_refl _) _
  have s1 : w1.heap.size = w.heap.size + 1 := by rw [hw1]; simp
  have r_0 : w1.cell? ⟨w.heap.size, 0, none⟩ = some (.string (ByteArray.mk #[])) := by rw [hw1]; exact box_cell (Below.refl _ _) rfl
  have r_1 : w1.cell? ⟨w.heap.size, 1, none⟩ = some (.slice none 0 0) := by rw [hw1]; exact box_cell (Below.refl _ _) rfl
  have r_2 : w1.cell? ⟨w.heap.size, 2, none⟩ = some (.int .i64 0) := by rw [hw1]; exact box_cell (Below.refl _ _) rfl
  have f_0 : w1.frozen? ⟨w.heap.size, 0, none⟩ = false := by rw [hw1]; exact box_frozen (Below.refl _ _)
  have f_1 : w1.frozen? ⟨w.heap.size, 1, none⟩ = false := by rw [hw1]; exact box_frozen (Below.refl _ _)
  have f_2 : w1.frozen? ⟨w.heap.size, 2, none⟩ = false := by rw [hw1]; exact box_frozen (Below.refl _ _)
  go_wp2_with fail
  rw [← hw1]
  clear hw1
  refine (HC.out w1 ((hb1.cell (p := ⟨0, 0, none⟩) hm0).trans hm)).mono ?_
  rintro e w2 ⟨rfl, hn2⟩
  have z2 : Below w1.heap.size w1 w2 := by obtain ⟨n, rfl⟩ := hn2; exact Drew.below ⟨n, rfl⟩ _
  have s2 := z2.size
  have s2' : w2.heap.size = w1.heap.size := by obtain ⟨n, rfl⟩ := hn2; rfl
  have hb2 := on hb1 z2
  replace r_0 := (z2.cell (p := ⟨w.heap.size, 0, none⟩) (by simp only []; omega)).trans r_0
  replace r_1 := (z2.cell (p := ⟨w.heap.size, 1, none⟩) (by simp only []; omega)).trans r_1
  replace r_2 := (z2.cell (p := ⟨w.heap.size, 2, none⟩) (by simp only []; omega)).trans r_2
  replace f_0 := (z2.frozen (p := ⟨w.heap.size, 0, none⟩) (by simp only []; omega)).trans f_0
  replace f_1 := (z2.frozen (p := ⟨w.heap.size, 1, none⟩) (by simp only []; omega)).trans f_1
  replace f_2 := (z2.frozen (p := ⟨w.heap.size, 2, none⟩) (by simp only []; omega)).trans f_2
  clear HC hn2 hm hm0
  match A, hAl, hE, hL with
  | [], _, hE, hL =>
    obtain rfl : P = none := hE.out (Or.inl rfl)
    clear hE hL
    go_wp2_with fail
    refine bodyPost_ret (v := .tuple #[.agg #[.string (ByteArray.mk #[]), .slice none 0 0, .int .i64 0], .bool false]) (by simp [results, Tryd.results23, go_sem, r_0, r_1, r_2, f_0, f_1, f_2]) rfl ⟨[.string (ByteArray.mk #[]), .slice none 0 0, .int .i64 0], rfl, ?_, ?_⟩
    · exact parDp_zero (by simp [World.setCell]; omega)
    · repeat (refine Below.setCell ?_ (by simp only []; omega) _)
      exact hb2
  | x :: r, hAl, hE, hL =>
    by_cases hT : T.length = 1
    case neg =>
      obtain rfl : P = none := hE.out (Or.inr hT)
      have hT1 : ¬ ((T.length : Int) = 1) := by omega
      have hT2 : (bs T).size = T.length := bs_size T
      clear hE hL
      go_wp2_with fail
      refine bodyPost_ret (v := .tuple #[.agg #[.string (ByteArray.mk #[]), .slice none 0 0, .int .i64 0], .bool false]) (by simp [results, Tryd.results23, go_sem, r_0, r_1, r_2, f_0, f_1, f_2]) rfl ⟨[.string (ByteArray.mk #[]), .slice none 0 0, .int .i64 0], rfl, ?_, ?_⟩
      · exact parDp_zero (by simp [World.setCell]; omega)
      · repeat (refine Below.setCell ?_ (by simp only []; omega) _)
        exact hb2
    obtain ⟨y, rfl⟩ : ∃ y, T = [y] := by
      match T, hT with
      | [y], _ => exact ⟨y, rfl⟩
    have HP := Lib.hid (hL.out (by simp))
    clear hE hL hT
    have hsz : (bs (x :: r)).size = r.length + 1 := bs_size _
    have hd1 := bs_drop1 x r _ hsz
    have hD := Lib.hid (fun W => digitsOf_any (bs r) W (by rw [bs_size]; simp at hAl; omega))
    go_wp2_with fail
    rw [bs_drop1 x r _ rfl]
    refine (hD.out _).mono ?_
    rintro e wA ⟨u, bq, rfl, oA, zA⟩
    obtain ⟨ub, un, uc, rfl⟩ := oI_form1 oA
    have sA := zA.size
    have hbA := on hb2 zA
    replace r_0 := (zA.cell (p := ⟨w.heap.size, 0, none⟩) (by simp only []; omega)).trans r_0
    replace r_1 := (zA.cell (p := ⟨w.heap.size, 1, none⟩) (by simp only []; omega)).trans r_1
    replace r_2 := (zA.cell (p := ⟨w.heap.size, 2, none⟩) (by simp only []; omega)).trans r_2
    replace f_0 := (zA.frozen (p := ⟨w.heap.size, 0, none⟩) (by simp only []; omega)).trans f_0
    replace f_1 := (zA.frozen (p := ⟨w.heap.size, 1, none⟩) (by simp only []; omega)).trans f_1
    replace f_2 := (zA.frozen (p := ⟨w.heap.size, 2, none⟩) (by simp only []; omega)).trans f_2
    clear hD hd1
    have HOA := Lib.hid oA
    clear oA
    go_wp2_with fail
    go_region
    have n1 : (bs [y])[0]'(by rw [bs_size]; simp) = y := rfl
    simp only [bs_take1, n1, byte_wrap]
    clear n1
    obtain ⟨w3, hw3⟩ : ∃ W, W = (wA.alloc (.cells #[.string (bs [x]), .slice ub un uc, .int .i64 ((y.toNat : Int) - 48)] 38)).drew := ⟨_, rfl⟩
    rw [← hw3]
    have z3 : Below wA.heap.size wA w3 := by rw [hw3]; exact ((Below.refl _ _).alloc (Nat.le_refl _) _).drew
    have s3 : w3.heap.size = wA.heap.size + 1 := by rw [hw3]; simp
    have x_0 : w3.cell? ⟨wA.heap.size, 0, none⟩ = some (.string (bs [x])) := by rw [hw3]; show (World.alloc wA _).cell? ⟨wA.heap.size, 0, none⟩ = _; exact box_cell (Below.refl _ _) rfl
    have x_1 : w3.cell? ⟨wA.heap.size, 1, none⟩ = some (.slice ub un uc) := by rw [hw3]; show (World.alloc wA _).cell? ⟨wA.heap.size, 1, none⟩ = _; exact box_cell (Below.refl _ _) rfl
    have x_2 : w3.cell? ⟨wA.heap.size, 2, none⟩ = some (.int .i64 ((y.toNat : Int) - 48)) := by rw [hw3]; show (World.alloc wA _).cell? ⟨wA.heap.size, 2, none⟩ = _; exact box_cell (Below.refl _ _) rfl
    clear hw3
    have hb3 := on hbA z3
    replace r_0 := (z3.cell (p := ⟨w.heap.size, 0, none⟩) (by simp only []; omega)).trans r_0
    replace r_1 := (z3.cell (p := ⟨w.heap.size, 1, none⟩) (by simp only []; omega)).trans r_1
    replace r_2 := (z3.cell (p := ⟨w.heap.size, 2, none⟩) (by simp only []; omega)).trans r_2
    replace f_0 := (z3.frozen (p := ⟨w.heap.size, 0, none⟩) (by simp only []; omega)).trans f_0
    replace f_1 := (z3.frozen (p := ⟨w.heap.size, 1, none⟩) (by simp only []; omega)).trans f_1
    replace f_2 := (z3.frozen (p := ⟨w.heap.size, 2, none⟩) (by simp only []; omega)).trans f_2
    have oF : Own oI (w.heap.size + 1) w3.heap.size w3 [.slice ub un uc] (digs? r) := (HOA.out.below z3 (Nat.le_refl _)).mono (by omega) (by omega)
    have HOF := Lib.hid oF
    clear oF HOA
    have h9 := y.toNat_lt
    have hI : I64 ((y.toNat : Int) - 48) := by unfold I64; omega
    have hdl := digs_len r
    simp only [List.length_cons] at hAl
    go_wp2_with fail
    refine (fmtDp_impl _ (bs [x], digs? r, (y.toNat : Int) - 48) _ (rDp_mk (by simp [bs_size]) (HOF.out.rd reads_I) hI) (by simp only []; omega)).mono ?_
    rintro e w4 ⟨rfl, z4⟩
    have s4 := z4.size
    have hb4 := on hb3 z4
    have o4 := HOF.out.below z4 (Nat.le_refl _)
    replace r_0 := (z4.cell (p := ⟨w.heap.size, 0, none⟩) (by simp only []; omega)).trans r_0
    replace r_1 := (z4.cell (p := ⟨w.heap.size, 1, none⟩) (by simp only []; omega)).trans r_1
    replace r_2 := (z4.cell (p := ⟨w.heap.size, 2, none⟩) (by simp only []; omega)).trans r_2
    replace f_0 := (z4.frozen (p := ⟨w.heap.size, 0, none⟩) (by simp only []; omega)).trans f_0
    replace f_1 := (z4.frozen (p := ⟨w.heap.size, 1, none⟩) (by simp only []; omega)).trans f_1
    replace f_2 := (z4.frozen (p := ⟨w.heap.size, 2, none⟩) (by simp only []; omega)).trans f_2
    replace x_0 := (z4.cell (p := ⟨wA.heap.size, 0, none⟩) (by simp only []; omega)).trans x_0
    replace x_1 := (z4.cell (p := ⟨wA.heap.size, 1, none⟩) (by simp only []; omega)).trans x_1
    replace x_2 := (z4.cell (p := ⟨wA.heap.size, 2, none⟩) (by simp only []; omega)).trans x_2
    have HP2 : Hid (P = if fmtDp (bs [x], digs? r, (y.toNat : Int) - 48) = sl then some (bs [x], digs? r, (y.toNat : Int) - 48) else none) := HP
    clear HP
    obtain ⟨F, hF⟩ : ∃ F, fmtDp (bs [x], digs? r, (y.toNat : Int) - 48) = F := ⟨_, rfl⟩
    simp only [hF] at HP2 ⊢
    clear hF
    by_cases hq : F = sl
    · obtain rfl : P = some (bs [x], digs? r, (y.toNat : Int) - 48) := by rw [HP2.out, if_pos hq]
      subst hq
      have HO4 := Lib.hid o4
      clear HP2 o4 HOF
      go_wp2_with fail
      refine bodyPost_ret (v := .tuple #[.agg #[.string (bs [x]), .slice ub un uc, .int .i64 ((y.toNat : Int) - 48)], .bool true]) (by simp [results, Tryd.results23, go_sem, r_0, r_1, r_2, f_0, f_1, f_2]) rfl ⟨[.string (bs [x]), .slice ub un uc, .int .i64 ((y.toNat : Int) - 48)], rfl, ?_, ?_⟩
      · refine Own.mono (lo := w.heap.size + 1) (hi := w4.heap.size) ?_ (by omega) (by simp [World.setCell])
        repeat (refine Own.setOut ?_ rfl (by simp only []; omega))
        exact oDp_mk (x := (bs [x], digs? r, (y.toNat : Int) - 48)) (by simp [bs_size]) HO4.out hI (by omega) (by omega)
      · repeat (refine Below.setCell ?_ (by simp only []; omega) _)
        exact hb4
    · obtain rfl : P = none := by rw [HP2.out, if_neg hq]
      have hne : (F == sl) = false := by rw [beq_eq_false_iff_ne]; exact hq
      clear HP2 hq o4 HOF
      go_wp2_with fail
      refine bodyPost_ret (v := .tuple #[.agg #[.string (ByteArray.mk #[]), .slice none 0 0, .int .i64 0], .bool false]) (by simp [results, Tryd.results23, go_sem, r_0, r_1, r_2, f_0, f_1, f_2]) rfl ⟨[.string (ByteArray.mk #[]), .slice none 0 0, .int .i64 0], rfl, ?_, ?_⟩
      · refine Own.mono (lo := w.heap.size + 1) (hi := w4.heap.size) ?_ (by omega) (by simp [World.setCell])
        repeat (refine Own.setOut ?_ rfl (by simp only []; omega))
        exact parDp_zero (by omega)
      · repeat (refine Below.setCell ?_ (by simp only []; omega) _)
        exact hb4

end Go.Proofs.YtigcagplbihenaaDoor

/- Contracts: marks of a dependency read again; the dependency of a text is small. -/
namespace Go.Proofs.YtigcagplbihenaaDoor
open Go.RowKit
set_option linter.unusedVariables false
set_option linter.unusedSimpArgs false

theorem parDp_bulk (s : ByteArray) : cnt_Dp ((parDp s).getD zeroDp) ≤ 10 ∧ bulk_Dp ((parDp s).getD zeroDp) ≤ 10 := by
  cases hp : parDp s with
  | none => exact ⟨by decide, by decide⟩
  | some x =>
    obtain ⟨ho, _⟩ := par_some hp
    obtain ⟨c, _, h1, h2, _⟩ := dp_parts ho
    have h3 : x.1.size = 1 := by rw [h1, bs_size]; rfl
    show cnt_I x.2.1 ≤ 10 ∧ x.1.size + bulk_I x.2.1 ≤ 10
    unfold cnt_I bulk_I
    omega
/-- Some number at a cell of old, in a later world. -/
theorem someCell {w W : World} {p : Addr} (h : ∃ m, w.cell? p = some (.int .i64 m)) (hb : Below w.heap.size w W) : ∃ m, W.cell? p = some (.int .i64 m) := by
  obtain ⟨m, hm⟩ := h
  exact ⟨m, (hb.cell (p := p) (cell_lt hm)).trans hm⟩

set_option maxHeartbeats 1000000 in
theorem held_Dp (us : List Value) (x : DDp) (k : Int) (w : World) (h : rDp.rep w us (mk_Dp k x)) (k0 : 1 ≤ k) (k1 : k + cnt_Dp x ≤ 1000000000) :
    Calls Tryd.prog 25 #[.agg us.toArray, .int .i64 k] w fun e w' => e = .returned (.int .i64 (k + cnt_Dp x)) ∧ Below w.heap.size w w' := by
  obtain ⟨vb, vn, vc, rfl, hs0, g0, hi2⟩ := rDp_open h
  obtain ⟨s, xs, t⟩ := x
  simp only [mk_Dp] at g0 hs0 hi2
  simp only [cnt_Dp] at k1 ⊢
  have H0 := Lib.hid (fun W (hW : Below w.heap.size w W) => held_I _ xs k W (rI.mono g0 hW) (by omega) (by omega))
  have hA : ¬ k + (cnt_I xs : Int) < 0 := by omega
  clear h g0
  have hb0 : Below w.heap.size w w := Below.refl _ _
  show Calls Tryd.prog 25 #[.agg #[.string s, .slice vb vn vc, .int .i64 t], .int .i64 k] w _
  go_enter Tryd.func25, Tryd.ntmps25
  obtain ⟨w1, hw1⟩ : ∃ W, W = w.alloc (.cells #[.string s, .slice vb vn vc, .int .i64 t] 38) := ⟨_, rfl⟩
  have z1 : Below w.heap.size w w1 := by rw [hw1]; exact (Below.refl _ _).alloc (Nat.le_refl _) _
  have s1 : w1.heap.size = w.heap.size + 1 := by rw [hw1]; simp
  have hb1 := on hb0 z1
  have a_1 : w1.cell? ⟨w.heap.size, 1, none⟩ = some (.slice vb vn vc) := by rw [hw1]; exact box_cell (Below.refl _ _) rfl
  have raw1_a_1 := a_1
  rw [hw1] at raw1_a_1
  go_wp2_with fail
  rw [← hw1]
  clear hw1
  clear raw1_a_1
  refine (H0.out _ hb1).mono ?_
  rintro e w' ⟨rfl, rfl⟩
  go_wp2_with fail
  go_ret
  exact ⟨ret_int (by omega), hb1⟩

end Go.Proofs.YtigcagplbihenaaDoor
