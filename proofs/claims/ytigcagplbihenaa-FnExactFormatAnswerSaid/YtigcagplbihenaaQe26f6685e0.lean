/- Texts joined for one claim: OII, OAn, LFormatAnswer. -/
import Derived.Test.YtigcagplbihenaaQa31ee82590
import Derived.Deep.RegionHeld3

/- Arguments of kind II opened. Written by a program. -/
namespace Go.Proofs.Ytigcagplbihenaa
open Go.ChangeShapes Go.WideShapes Go.ChangeAt Go.RowKit
set_option linter.unusedVariables false
set_option maxRecDepth 100000

theorem opens_II : Opens 34 rII := opens_slice Try.underlying34 (by kernel_rfl) (by decide) opens_I
def kII_in (w : World) (v : Value) : Prop := ∃ u xs, v = u ∧ rII.rep w [u] xs
theorem open_kII_in {H : Type} {enc : TypeId × Value → H} {W : World} {d : DataW H} {ps : List MemPlace} {v : Value} (hv : Value.okWide Try.prog W .any 0 34 v) (h : DataW.Trod enc Try.prog W 0 (fun _ => true) true 34 v d ps) : kII_in W v := by
  obtain ⟨a, l, c, rfl⟩ := okWide_slice Try.underlying34 hv
  obtain ⟨fuel, hf⟩ := h
  obtain ⟨xs, hx⟩ := opens_II H enc W fuel _ _ hf
  exact ⟨_, xs, rfl, by simpa [Value.cells] using hx⟩

end Go.Proofs.Ytigcagplbihenaa

/- Arguments of kind An opened. Written by a program. -/
namespace Go.Proofs.Ytigcagplbihenaa
open Go.ChangeShapes Go.WideShapes Go.ChangeAt Go.RowKit
set_option linter.unusedVariables false
set_option maxRecDepth 100000

theorem opens_An : Opens 36 rAn := opens_struct2 Try.underlying36 (by kernel_rfl) rfl rfl (by kernel_rfl) (by kernel_rfl) opens_I opens_II
abbrev kAn_in := agg_in rAn
theorem open_kAn_in {H : Type} {enc : TypeId × Value → H} {W : World} {d : DataW H} {ps : List MemPlace} {v : Value} (hv : Value.okWide Try.prog W .any 0 36 v) (h : DataW.Trod enc Try.prog W 0 (fun _ => true) true 36 v d ps) : kAn_in W v :=
  open_agg_in Try.underlying36 opens_An hv h

end Go.Proofs.Ytigcagplbihenaa

/- The walk of the law FormatAnswer. Written by a program. -/
namespace Go.Proofs.Ytigcagplbihenaa
open Go.RowKit
set_option linter.unusedVariables false
set_option linter.unusedSimpArgs false
set_option synthInstance.maxSize 2000
set_option synthInstance.maxHeartbeats 400000

set_option maxHeartbeats 4000000 in
set_option maxRecDepth 100000 in
theorem walk_FnExactFormatAnswer (v0 : Value) (w : World) (h0 : kAn_in w v0) :
    Calls Try.prog 4 #[v0] w fun e w' => e = .returned (.bool true) ∧ Below w.heap.size w w' := by
  obtain ⟨c0, x0, rfl, h0⟩ := h0
  obtain ⟨bu0, nu0, cu0, bu0b, nu0b, cu0b, rfl⟩ := rAn_form h0
  have hb0 : Below w.heap.size w w := Below.refl _ _
  go_enter Try.func4, Try.ntmps4
  obtain ⟨w1, hw1⟩ : ∃ W, W = w.alloc (.cells #[.slice bu0 nu0 cu0, .slice bu0b nu0b cu0b] 36) := ⟨_, rfl⟩
  have z1 : Below w.heap.size w w1 := by rw [hw1]; exact (Below.refl _ _).alloc (Nat.le_refl _) _
  have s1 : w1.heap.size = w.heap.size + 1 := by rw [hw1]; simp
  have hb1 := on hb0 z1
  have bp0_0 : w1.cell? ⟨w.heap.size, 0, none⟩ = some (.slice bu0 nu0 cu0) := by rw [hw1]; exact box_cell (Below.refl _ _) rfl
  have bp0_1 : w1.cell? ⟨w.heap.size, 1, none⟩ = some (.slice bu0b nu0b cu0b) := by rw [hw1]; exact box_cell (Below.refl _ _) rfl
  go_wp2_with fail
  rw [← hw1]
  clear hw1
  refine (sz_An _ x0 (1048576) _ (rAn.mono h0 hb1) (by omega) (by omega)).mono ?_
  rintro e w2 ⟨rfl, z2⟩
  have s2 := z2.size
  have hb2 := on hb1 z2
  replace bp0_0 := (z2.cell (p := ⟨w.heap.size, 0, none⟩) (by simp only []; omega)).trans bp0_0
  replace bp0_1 := (z2.cell (p := ⟨w.heap.size, 1, none⟩) (by simp only []; omega)).trans bp0_1
  obtain ⟨q0, hq0⟩ : ∃ q, q = szR (1048576) (bulk_An x0) := ⟨_, rfl⟩
  rw [← hq0]
  have hc0 := szR_cases (1048576) (bulk_An x0)
  rw [← hq0] at hc0
  clear hq0
  rcases hc0 with ⟨rfl, _⟩ | ⟨hq0, hbk0⟩
  · go_wp2_with fail
    go_ret
    exact ⟨rfl, hb2⟩
  have hlo0 : 0 ≤ q0 ∧ q0 ≤ 1048576 := by omega
  have hbl0 : bulk_An x0 ≤ 1048576 := by omega
  obtain ⟨hlo0, hlp0⟩ := hlo0
  have HQ0 := Lib.hid hq0
  clear hq0 hbk0
  go_wp2_with fail
  refine (to_An _ _ _ (rAn.mono h0 hb2) (by omega)).mono ?_
  rintro e w3 ⟨ct0, rfl, t0, z3⟩
  have s3 := z3.size
  have hb3 := on hb2 z3
  replace bp0_0 := (z3.cell (p := ⟨w.heap.size, 0, none⟩) (by simp only []; omega)).trans bp0_0
  replace bp0_1 := (z3.cell (p := ⟨w.heap.size, 1, none⟩) (by simp only []; omega)).trans bp0_1
  obtain ⟨but0, nut0, cut0, but0b, nut0b, cut0b, rfl⟩ := oAn_form t0
  go_wp2_with fail
  refine (fmtAn_spec _ x0 _ (t0.rd reads_An) (by omega)).mono ?_
  rintro e w4 ⟨rfl, z4⟩
  have s4 := z4.size
  have hb4 := on hb3 z4
  replace t0 := t0.below z4 (by omega)
  replace bp0_0 := (z4.cell (p := ⟨w.heap.size, 0, none⟩) (by simp only []; omega)).trans bp0_0
  replace bp0_1 := (z4.cell (p := ⟨w.heap.size, 1, none⟩) (by simp only []; omega)).trans bp0_1
  clear t0
  go_wp2_with fail
  refine (to_An _ _ _ (rAn.mono h0 hb4) (by omega)).mono ?_
  rintro e w5 ⟨cy0, rfl, y0, z5⟩
  have s5 := z5.size
  have hb5 := on hb4 z5
  replace bp0_0 := (z5.cell (p := ⟨w.heap.size, 0, none⟩) (by simp only []; omega)).trans bp0_0
  replace bp0_1 := (z5.cell (p := ⟨w.heap.size, 1, none⟩) (by simp only []; omega)).trans bp0_1
  obtain ⟨buy0, nuy0, cuy0, buy0b, nuy0b, cuy0b, rfl⟩ := oAn_form y0
  obtain ⟨w6, hw6⟩ : ∃ W, W = w5.alloc (.cells #[.slice buy0 nuy0 cuy0, .slice buy0b nuy0b cuy0b] 39) := ⟨_, rfl⟩
  have z6 : Below w5.heap.size w5 w6 := by rw [hw6]; exact (Below.refl _ _).alloc (Nat.le_refl _) _
  have s6 : w6.heap.size = w5.heap.size + 1 := by rw [hw6]; simp
  have hb6 := on hb5 z6
  replace y0 := y0.below z6 (by omega)
  replace bp0_0 := (z6.cell (p := ⟨w.heap.size, 0, none⟩) (by simp only []; omega)).trans bp0_0
  replace bp0_1 := (z6.cell (p := ⟨w.heap.size, 1, none⟩) (by simp only []; omega)).trans bp0_1
  have by0_0 : w6.cell? ⟨w5.heap.size, 0, none⟩ = some (.slice buy0 nuy0 cuy0) := by rw [hw6]; exact box_cell (Below.refl _ _) rfl
  have by0_1 : w6.cell? ⟨w5.heap.size, 1, none⟩ = some (.slice buy0b nuy0b cuy0b) := by rw [hw6]; exact box_cell (Below.refl _ _) rfl
  have raw_bp0_0 := bp0_0
  rw [hw6] at raw_bp0_0
  have raw_bp0_1 := bp0_1
  rw [hw6] at raw_bp0_1
  have raw_by0_0 := by0_0
  rw [hw6] at raw_by0_0
  have raw_by0_1 := by0_1
  rw [hw6] at raw_by0_1
  go_wp2_with fail
  rw [← hw6]
  clear hw6
  clear raw_bp0_0 raw_bp0_1 raw_by0_0 raw_by0_1
  refine (fmtAn_impl _ x0 _ (y0.rd reads_An) (by omega)).mono ?_
  rintro e w7 ⟨rfl, z7⟩
  have s7 := z7.size
  have hb7 := on hb6 z7
  replace y0 := y0.below z7 (by omega)
  replace bp0_0 := (z7.cell (p := ⟨w.heap.size, 0, none⟩) (by simp only []; omega)).trans bp0_0
  replace bp0_1 := (z7.cell (p := ⟨w.heap.size, 1, none⟩) (by simp only []; omega)).trans bp0_1
  replace by0_0 := (z7.cell (p := ⟨w5.heap.size, 0, none⟩) (by simp only []; omega)).trans by0_0
  replace by0_1 := (z7.cell (p := ⟨w5.heap.size, 1, none⟩) (by simp only []; omega)).trans by0_1
  go_wp2_with fail
  go_region_held3 (fun W => W.cell? ⟨w5.heap.size, 0, none⟩ = some (.slice buy0 nuy0 cuy0) ∧ W.cell? ⟨w5.heap.size, 1, none⟩ = some (.slice buy0b nuy0b cuy0b) ∧ W.cell? ⟨w.heap.size, 0, none⟩ = some (.slice bu0 nu0 cu0) ∧ W.cell? ⟨w.heap.size, 1, none⟩ = some (.slice bu0b nu0b cu0b)) (first | exact ⟨by0_0, by0_1, bp0_0, bp0_1⟩ | assumption) (first | (go_at_call 12; refine (to_An _ x0 _ (rAn.mono h0 hb7.drew) (by omega)).mono ?_; rintro e w8 ⟨du0, rfl, u0, z8⟩; replace z8 : Below w7.heap.size w7 w8 := (Below.refl _ _).drew.trans z8; have hS0 := (⟨(z8.cell (p := ⟨w5.heap.size, 0, none⟩) (by simp only []; omega)).trans by0_0, (z8.cell (p := ⟨w5.heap.size, 1, none⟩) (by simp only []; omega)).trans by0_1, (z8.cell (p := ⟨w.heap.size, 0, none⟩) (by simp only []; omega)).trans bp0_0, (z8.cell (p := ⟨w.heap.size, 1, none⟩) (by simp only []; omega)).trans bp0_1⟩ : (fun W => W.cell? ⟨w5.heap.size, 0, none⟩ = some (.slice buy0 nuy0 cuy0) ∧ W.cell? ⟨w5.heap.size, 1, none⟩ = some (.slice buy0b nuy0b cuy0b) ∧ W.cell? ⟨w.heap.size, 0, none⟩ = some (.slice bu0 nu0 cu0) ∧ W.cell? ⟨w.heap.size, 1, none⟩ = some (.slice bu0b nu0b cu0b)) w8); obtain ⟨buu0, nuu0, cuu0, buu0b, nuu0b, cuu0b, rfl⟩ := oAn_form u0; have y0' := y0.below z8 (by omega)) | (go_at_call 14; refine (eq_An _ _ x0 x0 _ (y0'.rd reads_An) (u0.rd reads_An)).mono ?_; rintro e w9 ⟨rfl, z9⟩; have s8 := z8.size; have hT0 := (⟨(z9.cell (p := ⟨w5.heap.size, 0, none⟩) (by simp only []; omega)).trans hS0.1, (z9.cell (p := ⟨w5.heap.size, 1, none⟩) (by simp only []; omega)).trans hS0.2.1, (z9.cell (p := ⟨w.heap.size, 0, none⟩) (by simp only []; omega)).trans hS0.2.2.1, (z9.cell (p := ⟨w.heap.size, 1, none⟩) (by simp only []; omega)).trans hS0.2.2.2⟩ : (fun W => W.cell? ⟨w5.heap.size, 0, none⟩ = some (.slice buy0 nuy0 cuy0) ∧ W.cell? ⟨w5.heap.size, 1, none⟩ = some (.slice buy0b nuy0b cuy0b) ∧ W.cell? ⟨w.heap.size, 0, none⟩ = some (.slice bu0 nu0 cu0) ∧ W.cell? ⟨w.heap.size, 1, none⟩ = some (.slice bu0b nu0b cu0b)) w9)))
  replace z8 : Below w7.heap.size w7 w8 := z8
  clear u0 y0' hS0 hT0
  have t8 := z8.size
  have hb8 := on hb7 z8
  replace y0 := y0.below z8 (by omega)
  replace bp0_0 := (z8.cell (p := ⟨w.heap.size, 0, none⟩) (by simp only []; omega)).trans bp0_0
  replace bp0_1 := (z8.cell (p := ⟨w.heap.size, 1, none⟩) (by simp only []; omega)).trans bp0_1
  replace by0_0 := (z8.cell (p := ⟨w5.heap.size, 0, none⟩) (by simp only []; omega)).trans by0_0
  replace by0_1 := (z8.cell (p := ⟨w5.heap.size, 1, none⟩) (by simp only []; omega)).trans by0_1
  have t9 := z9.size
  have hb9 := on hb8 z9
  replace y0 := y0.below z9 (by omega)
  replace bp0_0 := (z9.cell (p := ⟨w.heap.size, 0, none⟩) (by simp only []; omega)).trans bp0_0
  replace bp0_1 := (z9.cell (p := ⟨w.heap.size, 1, none⟩) (by simp only []; omega)).trans bp0_1
  replace by0_0 := (z9.cell (p := ⟨w5.heap.size, 0, none⟩) (by simp only []; omega)).trans by0_0
  replace by0_1 := (z9.cell (p := ⟨w5.heap.size, 1, none⟩) (by simp only []; omega)).trans by0_1
  go_wp2_with fail
  go_ret
  exact ⟨rfl, hb9⟩

end Go.Proofs.Ytigcagplbihenaa
