/- Texts joined for one claim: Fresh. -/
import Derived.Test.YtehcjdbljdpmbaaQe9d03aafcc
import Derived.Test.YtehcjdbljdpmbaaQ147c26af10
import Derived.Test.YtehcjdbljdpmbaaQ78b0bc09a1

/- Contracts: fresh (laws): another code. -/
namespace Go.Proofs.Ytehcjdbljdpmbaa
open Go.RowKit
set_option linter.unusedVariables false
set_option linter.unusedSimpArgs false
set_option synthInstance.maxSize 2000
set_option synthInstance.maxHeartbeats 400000

def O.byte : OS Int := ⟨1, fun _ cs x fp => cs = [.int .u8 x] ∧ (0 ≤ x ∧ x ≤ 255) ∧ fp = [], fun h => by rw [h.1]; rfl, fun h _ => h, fun h k hk => by rw [h.2.2] at hk; cases hk⟩
def oB : OS (List Int) := O.slice 5 O.byte
theorem reads_B : Reads oB (R.slice R.byte) := Reads.slice 5 ⟨rfl, fun h => ⟨h.1, h.2.1⟩⟩
theorem infoByte : (Try.prog.info? 5).map (fun i => (i.zero, i.size, i.bytes)) = some (some (.int .u8 0), 1, 1) := by kernel_rfl
/-- One more byte behind bytes of one's own. -/
theorem own_byte {lo hi : Nat} {W W1 : World} {v : Value} {ys : List Int} {r : Int} (ty : TypeId) (h : Own oB lo hi W [v] ys) (hr : 0 ≤ r ∧ r ≤ 255) (hh2 : hi ≤ W.heap.size) (hlo : lo ≤ hi) (hn : ys.length ≤ 1000000) (hW1 : W1 = W.alloc (.cells #[.int .u8 r] 5)) :
    ∃ a n c w', (Builtin.append_ #[22, 22] ty #[v, .slice (some ⟨W.heap.size, 0, none⟩) 1 1]).run Try.prog W1 = .ok (.slice a n c) w' ∧ Own oB lo w'.heap.size w' [.slice a n c] (ys ++ [r]) ∧ Below lo W w' ∧ W.heap.size < w'.heap.size := by
  obtain ⟨fu, a2, a4, a9⟩ := h
  obtain ⟨a, n, c, w', fu', hrun, c1, c2, c3, c4, ⟨c5, c6, c7⟩, c8⟩ := run_app_fp (W := W) (W1 := W1) Try.underlying22 infoByte rfl (by decide) (by decide) rfl ty v ys [.int .u8 r] r fu [] a2 a4 (o' := O.byte) ⟨rfl, hr, rfl⟩ (by simp) (fun k hk => by cases hk) (by intro z hz; simp at hz; subst hz; rfl) (by omega) hW1
  refine ⟨a, n, c, w', hrun, ⟨fu', c1, c2, fun k hk => ?_⟩, ⟨c5, c6, c7, by omega, fun k hk => c8 k (by omega) (fun hk2 => by have := a9 k hk2; omega)⟩, c4⟩
  rcases c3 k hk with h9 | h9 | h9
  · have := a9 k h9; omega
  · cases h9
  · omega
theorem own_byte1 {W : World} {a : Int} (ha : 0 ≤ a ∧ a ≤ 255) : Own oB W.heap.size (W.heap.size + 1) (W.alloc (.cells #[.int .u8 a] 5)) [.slice (some ⟨W.heap.size, 0, none⟩) 1 1] [a] :=
  ⟨[W.heap.size], ⟨.slice (some ⟨W.heap.size, 0, none⟩) 1 1, [[.int .u8 a]], [[]], rfl, rfl, ⟨rfl, .inr ⟨W.heap.size, 1, #[.int .u8 a], rfl, Nat.zero_le _, heap_alloc_new W _, Nat.le_refl _, by unfold maxLen; omega, rfl, rfl⟩⟩, ⟨⟨rfl, ha, rfl⟩, trivial⟩⟩, by simp, by simp⟩
theorem Own.bytes {lo hi : Nat} {w : World} {b : Option Addr} {n c : Nat} {xs : List Int} (h : Own oB lo hi w [.slice b n c] xs) : Bytes w w.heap.size b n := by
  obtain ⟨a', n', cap, e, _, _, hs⟩ := h.rd reads_B
  simp only [List.cons.injEq, and_true, Value.slice.injEq] at e
  obtain ⟨rfl, rfl, rfl⟩ := e
  refine ⟨hs.small, fun i hi => ?_⟩
  have hl := hs.len
  obtain ⟨b, off, cs, ha, ⟨hc, h0, h1⟩, hcell⟩ := hs.elem i xs[i] (List.getElem?_eq_getElem (by omega))
  subst hc
  have h9 := hcell 0 _ rfl
  simp only [R.byte, Nat.mul_one, Nat.add_zero] at h9
  exact ⟨b, off, xs[i], ha, cell_lt h9, h9, h0, h1⟩
theorem Own.bytesN {lo hi : Nat} {w : World} {b : Option Addr} {n c : Nat} {xs : List Int} (h : Own oB lo hi w [.slice b n c] xs) : n = xs.length := by
  obtain ⟨a', n', cap, e, _, _, hs⟩ := h.rd reads_B
  simp only [List.cons.injEq, and_true, Value.slice.injEq] at e
  obtain ⟨rfl, rfl, rfl⟩ := e
  exact hs.len.symm

set_option maxRecDepth 100000 in
set_option maxHeartbeats 2000000 in
theorem fresh_any (w : World) (ba : Option Addr) (bn bc : Nat) (h : Bytes w w.heap.size ba bn) :
    Calls Try.prog 17 #[.slice ba bn bc, .int .i64 3] w fun e w' => ∃ b n c, e = .returned (.slice b n c) ∧ Bytes w' w'.heap.size b n ∧ n ≤ 700 ∧ Below w.heap.size w w' := by
  have hb0 : Below w.heap.size w w := Below.refl _ _
  go_enter Try.func17, Try.ntmps17
  have o0 := own_byte1 (W := w) (a := 3) (by omega)
  obtain ⟨w1, hw1⟩ : ∃ W, W = w.alloc (.cells #[.int .u8 3] 5) := ⟨_, rfl⟩
  have z1 : Below w.heap.size w w1 := by rw [hw1]; exact (Below.refl _ _).alloc (Nat.le_refl _) _
  have s1 : w1.heap.size = w.heap.size + 1 := by rw [hw1]; simp
  rw [← hw1] at o0
  go_wp2_with fail
  rw [← hw1]
  clear hw1
  go_loopw [5, 6] (fun v i wr => ∃ (j n c : Nat) (b : Option Addr) (xs : List Int), j ≤ bn ∧ j ≤ 600 ∧ i = .int .i64 (j : Int) ∧ v = .slice b n c ∧ Own oB w.heap.size wr.heap.size wr [.slice b n c] xs ∧ xs.length = j + 1 ∧ Below w.heap.size w wr) (fun _ i _ => bn - (intOf i).toNat)
  case atStart => exact ⟨0, 1, 1, _, [3], Nat.zero_le _, by omega, rfl, rfl, o0.mono (Nat.le_refl _) (by omega), rfl, z1⟩
  case round =>
    obtain ⟨j, n, c, b, xs, hj, hj6, rfl, rfl, ho, hl, hbr⟩ := hrel
    clear o0 z1 s1
    have sr := hbr.size
    by_cases hlt : j < bn ∧ j < 600
    · obtain ⟨hl1, hl2⟩ := hlt
      obtain ⟨b1, off, v, rfl, hne, hc, hv0, hv1⟩ := h.cell j hl1
      have hc2 := (hbr.cell (p := ⟨b1, off + j, none⟩) hne).trans hc
      have HO := Lib.hid ho
      have HB := Lib.hid hbr
      clear hc ho hbr h
      have hj8 : (j : Int) < 600 := by omega
      obtain ⟨y, hy, hy0, hy1⟩ : ∃ y : Int, (v * 3 + 3 * ((j : Int) % 7 + 1)) % 256 = y ∧ 0 ≤ y ∧ y ≤ 255 := ⟨_, rfl, by omega, by omega⟩
      obtain ⟨na, nn, nc, wn, hrn, on_, hbn, hzn⟩ := own_byte 22 HO.out (r := y) ⟨hy0, hy1⟩ (Nat.le_refl _) sr (by omega) rfl
      have HON := Lib.hid on_
      have HBN := Lib.hid (HB.out.trans hbn)
      clear on_ hbn HO
      go_wp2_with (at_builtin; rw [hy]; refine wpList_app_run hrn rfl rfl rfl rfl rfl ?_)
      go_roundw
      case rel => exact ⟨j + 1, nn, nc, na, xs ++ [y], by omega, by omega, by go_num, rfl, HON.out, by rw [List.length_append, hl]; simp, HBN.out⟩
      case measure => simp [intOf]; omega
    · have HB := Lib.hid ho.bytes
      have HN := Lib.hid ho.bytesN
      clear ho h
      by_cases hjb : j < bn
      · have hj9 : decide (j < 600) = false := by rw [decide_eq_false_iff_not]; omega
        have hj8 : ¬ (j : Int) < 600 := by omega
        go_wp2_with fail
        go_ret
        first | exact ⟨_, _, _, rfl, HB.out, by rw [HN.out]; omega, hbr⟩ | exact ⟨_, _, ⟨_, rfl⟩, HB.out, by rw [HN.out]; omega, hbr⟩
      · go_wp2_with fail
        go_ret
        first | exact ⟨_, _, _, rfl, HB.out, by rw [HN.out]; omega, hbr⟩ | exact ⟨_, _, ⟨_, rfl⟩, HB.out, by rw [HN.out]; omega, hbr⟩

end Go.Proofs.Ytehcjdbljdpmbaa
