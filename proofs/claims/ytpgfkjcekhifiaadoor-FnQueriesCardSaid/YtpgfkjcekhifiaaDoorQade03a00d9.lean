/- Texts joined for one claim: KA, KII, KAn, KAs, KT, RowB, Canon, KQ, KTl, MarkG, ValidAn, ValidT, ColsOk, DedP, Eqs, KDb, MAs, MII, OwnHd, Sel, ValidAnS, ValidQ, GrpP, KEqual, MQ, MaskP, ValidQI, ValidQS. -/
import Derived.Test.YtpgfkjcekhifiaaDoorQ1236d00423
import Derived.Test.YtpgfkjcekhifiaaDoorQ3c87720161
import Derived.Deep.RegionHeld3

/- Kind A: shape, size, copy, comparison. Written by a program. -/
namespace Go.Proofs.YtpgfkjcekhifiaaDoor
open Go.RowKit
set_option linter.unusedVariables false
set_option linter.unusedSimpArgs false
set_option synthInstance.maxSize 2000
set_option synthInstance.maxHeartbeats 400000

abbrev DA := ByteArray × List Int
def rA : RS DA := R.pair R.str rI
def oA : OS DA := O.pair O.str oI
theorem reads_A : Reads oA rA := Reads.pair Reads.str reads_I
theorem rA_open {w : World} {cs : List Value} {x : DA} (h : rA.rep w cs x) : ∃ ub1 un1 uc1, cs = [.string x.1, .slice ub1 un1 uc1] ∧ x.1.size ≤ 9223372036854775807 ∧ rI.rep w [.slice ub1 un1 uc1] x.2 := by
  obtain ⟨c0a, c0b, rfl, ⟨rfl, hs0⟩, hr1⟩ := h
  obtain ⟨ub1, un1, uc1, rfl⟩ := rI_form hr1
  exact ⟨_, _, _, rfl, hs0, hr1⟩
theorem rA_form {w : World} {cs : List Value} {x : DA} (h : rA.rep w cs x) : ∃ ub1 un1 uc1, cs = [.string x.1, .slice ub1 un1 uc1] := by
  obtain ⟨ub1, un1, uc1, h1, _⟩ := rA_open h
  exact ⟨_, _, _, h1⟩
theorem rA_mk {w : World} {ub1 : Option Addr} {un1 uc1 : Nat} {x : DA} (h0 : x.1.size ≤ 9223372036854775807) (h1 : rI.rep w [.slice ub1 un1 uc1] x.2) : rA.rep w [.string x.1, .slice ub1 un1 uc1] x :=
  ⟨[.string x.1], [.slice ub1 un1 uc1], rfl, ⟨rfl, h0⟩, h1⟩
theorem oA_form {lo hi : Nat} {w : World} {cs : List Value} {x : DA} (h : Own oA lo hi w cs x) : ∃ ub1 un1 uc1, cs = [.string x.1, .slice ub1 un1 uc1] := rA_form (h.rd reads_A)

theorem oA_mk {lo hi l1 m1 : Nat} {w : World} {ub1 : Option Addr} {un1 uc1 : Nat} {x : DA} (hs0 : x.1.size ≤ 9223372036854775807) (ho1 : Own oI l1 m1 w [.slice ub1 un1 uc1] x.2) (a1 : lo ≤ l1) (b1 : m1 ≤ hi)  : Own oA lo hi w [.string x.1, .slice ub1 un1 uc1] x := by
  obtain ⟨f1, r1, n1, q1⟩ := ho1
  refine ⟨([] ++ f1), ⟨[.string x.1], [.slice ub1 un1 uc1], [], f1, rfl, rfl, ⟨rfl, hs0, rfl⟩, r1⟩, ?_, ?_⟩
  · try simp only [List.nil_append, List.append_nil]
    exact n1
  · intro p hp
    try simp only [List.nil_append, List.append_nil, List.mem_append] at hp
    have := q1 p hp; omega

def bulk_A (x : DA) : Nat := (x.1.size) + (bulk_I x.2)

set_option maxHeartbeats 2000000 in
theorem eq_A (cs ds : List Value) (x y : DA) (w : World) (h : rA.rep w cs x) (h' : rA.rep w ds y) :
    Calls Tryd.prog 61 #[.agg cs.toArray, .agg ds.toArray] w fun e w' => e = .returned (.bool (decide (x = y))) ∧ Below w.heap.size w w' := by
  obtain ⟨ub1, un1, uc1, rfl, g0, g1⟩ := rA_open h
  obtain ⟨vb1, vn1, vc1, rfl, k0, k1⟩ := rA_open h'
  clear h h'
  have hb1 : Below w.heap.size w ((w.alloc (.cells #[.string x.1, .slice ub1 un1 uc1] 43)).alloc (.cells #[.string y.1, .slice vb1 vn1 vc1] 43)) := ((Below.refl _ _).alloc (Nat.le_refl _) _).alloc (by simp) _
  go_enter Tryd.func61, Tryd.ntmps61
  obtain ⟨w1, hw1⟩ : ∃ W, W = (w.alloc (.cells #[.string x.1, .slice ub1 un1 uc1] 43)).alloc (.cells #[.string y.1, .slice vb1 vn1 vc1] 43) := ⟨_, rfl⟩
  have s1 : w1.heap.size = w.heap.size + 1 + 1 := by rw [hw1]; simp
  rw [← hw1] at hb1
  have bc_0 : w1.cell? ⟨w.heap.size, 0, none⟩ = some (.string x.1) := by rw [hw1]; simp [go_sem, World.cell?_alloc_past]
  have bd_0 : w1.cell? ⟨w.heap.size + 1, 0, none⟩ = some (.string y.1) := by rw [hw1]; simp [go_sem, World.cell?_alloc_past]
  have bc_1 : w1.cell? ⟨w.heap.size, 1, none⟩ = some (.slice ub1 un1 uc1) := by rw [hw1]; simp [go_sem, World.cell?_alloc_past]
  have bd_1 : w1.cell? ⟨w.heap.size + 1, 1, none⟩ = some (.slice vb1 vn1 vc1) := by rw [hw1]; simp [go_sem, World.cell?_alloc_past]
  by_cases e0 : x.1 = y.1
  case neg =>
    have HE := Lib.hid (show decide (x = y) = false by simp only [decide_eq_false_iff_not]; intro h9; exact e0 (by rw [h9]))
    have hne := bytes_ne e0
    clear e0
    go_wp2_with fail
    go_ret
    exact ⟨ret_bool HE.out.symm, by first | exact hb1 | (rw [hw1] at hb1; exact hb1)⟩
  have E0 := Lib.hid e0
  have hq0 : (x.1.toList == y.1.toList) = true := by rw [e0]; simp
  clear e0
  go_wp2_with fail
  rw [← hw1]
  clear hw1
  refine (eq_I _ _ (x.2) (y.2) _ (rI.mono g1 hb1) (rI.mono k1 hb1)).mono ?_
  rintro e w2 ⟨rfl, z2⟩
  replace z2 : Below w1.heap.size w1 w2 := z2.below _
  have s2 := z2.size
  have hb2 := on hb1 z2
  replace bc_0 := (z2.cell (p := ⟨w.heap.size, 0, none⟩) (by simp only []; omega)).trans bc_0
  replace bd_0 := (z2.cell (p := ⟨w.heap.size + 1, 0, none⟩) (by simp only []; omega)).trans bd_0
  replace bc_1 := (z2.cell (p := ⟨w.heap.size, 1, none⟩) (by simp only []; omega)).trans bc_1
  replace bd_1 := (z2.cell (p := ⟨w.heap.size + 1, 1, none⟩) (by simp only []; omega)).trans bd_1
  by_cases e1 : x.2 = y.2
  case neg =>
    have HE := Lib.hid (show decide (x = y) = false by simp only [decide_eq_false_iff_not]; intro h9; exact e1 (by rw [h9]))
    have hne : decide (x.2 = y.2) = false := by simpa using e1
    rw [hne]
    clear e1 hne
    go_wp2_with fail
    go_ret
    exact ⟨ret_bool HE.out.symm, hb2⟩
  have E1 := Lib.hid e1
  have hq1 : decide (x.2 = y.2) = true := by simpa using e1
  rw [hq1]
  clear e1 hq1
  have HE := Lib.hid (show decide (x = y) = true by simp only [decide_eq_true_eq]; exact Prod.ext E0.out (E1.out))
  go_wp2_with fail
  go_ret
  exact ⟨ret_bool HE.out.symm, hb2⟩

end Go.Proofs.YtpgfkjcekhifiaaDoor

/- Kind II: shape, size, copy, comparison. Written by a program. -/
namespace Go.Proofs.YtpgfkjcekhifiaaDoor
open Go.RowKit
set_option linter.unusedVariables false
set_option linter.unusedSimpArgs false
set_option synthInstance.maxSize 2000
set_option synthInstance.maxHeartbeats 400000

theorem rII_form {w : World} {cs : List Value} {xs : List (List Int)} (h : rII.rep w cs xs) : ∃ b n c, cs = [.slice b n c] := rS_form h
theorem oII_form1 {lo hi : Nat} {w : World} {v : Value} {xs : List (List Int)} (h : Own oII lo hi w [v] xs) : ∃ b n c, v = .slice b n c := oS_form1 reads_I h
def bulk_II (xs : List (List Int)) : Nat := xs.length + sumBy bulk_I xs

end Go.Proofs.YtpgfkjcekhifiaaDoor

/- Kind An: shape, size, copy, comparison. Written by a program. -/
namespace Go.Proofs.YtpgfkjcekhifiaaDoor
open Go.RowKit
set_option linter.unusedVariables false
set_option linter.unusedSimpArgs false
set_option synthInstance.maxSize 2000
set_option synthInstance.maxHeartbeats 400000

abbrev DAn := (List Int) × List (List Int)
def rAn : RS DAn := R.pair rI rII
def oAn : OS DAn := O.pair oI oII
theorem reads_An : Reads oAn rAn := Reads.pair reads_I reads_II
theorem rAn_open {w : World} {cs : List Value} {x : DAn} (h : rAn.rep w cs x) : ∃ ub0 un0 uc0 ub1 un1 uc1, cs = [.slice ub0 un0 uc0, .slice ub1 un1 uc1] ∧ rI.rep w [.slice ub0 un0 uc0] x.1 ∧ rII.rep w [.slice ub1 un1 uc1] x.2 := by
  obtain ⟨c0a, c0b, rfl, hr0, hr1⟩ := h
  obtain ⟨ub0, un0, uc0, rfl⟩ := rI_form hr0
  obtain ⟨ub1, un1, uc1, rfl⟩ := rII_form hr1
  exact ⟨_, _, _, _, _, _, rfl, hr0, hr1⟩
theorem rAn_form {w : World} {cs : List Value} {x : DAn} (h : rAn.rep w cs x) : ∃ ub0 un0 uc0 ub1 un1 uc1, cs = [.slice ub0 un0 uc0, .slice ub1 un1 uc1] := by
  obtain ⟨ub0, un0, uc0, ub1, un1, uc1, h1, _⟩ := rAn_open h
  exact ⟨_, _, _, _, _, _, h1⟩
theorem rAn_mk {w : World} {ub0 : Option Addr} {un0 uc0 : Nat} {ub1 : Option Addr} {un1 uc1 : Nat} {x : DAn} (h0 : rI.rep w [.slice ub0 un0 uc0] x.1) (h1 : rII.rep w [.slice ub1 un1 uc1] x.2) : rAn.rep w [.slice ub0 un0 uc0, .slice ub1 un1 uc1] x :=
  ⟨[.slice ub0 un0 uc0], [.slice ub1 un1 uc1], rfl, h0, h1⟩
theorem oAn_form {lo hi : Nat} {w : World} {cs : List Value} {x : DAn} (h : Own oAn lo hi w cs x) : ∃ ub0 un0 uc0 ub1 un1 uc1, cs = [.slice ub0 un0 uc0, .slice ub1 un1 uc1] := rAn_form (h.rd reads_An)

theorem oAn_mk {lo hi l0 m0 l1 m1 : Nat} {w : World} {ub0 : Option Addr} {un0 uc0 : Nat} {ub1 : Option Addr} {un1 uc1 : Nat} {x : DAn} (ho0 : Own oI l0 m0 w [.slice ub0 un0 uc0] x.1) (ho1 : Own oII l1 m1 w [.slice ub1 un1 uc1] x.2) (a0 : lo ≤ l0) (b0 : m0 ≤ hi) (a1 : lo ≤ l1) (b1 : m1 ≤ hi) (d0_1 : m0 ≤ l1) : Own oAn lo hi w [.slice ub0 un0 uc0, .slice ub1 un1 uc1] x := by
  obtain ⟨f0, r0, n0, q0⟩ := ho0
  obtain ⟨f1, r1, n1, q1⟩ := ho1
  refine ⟨(f0 ++ f1), ⟨[.slice ub0 un0 uc0], [.slice ub1 un1 uc1], f0, f1, rfl, rfl, r0, r1⟩, ?_, ?_⟩
  · try simp only [List.nil_append, List.append_nil]
    exact List.nodup_append.2 ⟨n0, n1, fun p hp q hq e => by subst e; have := q0 p hp; have := q1 p hq; omega⟩
  · intro p hp
    try simp only [List.nil_append, List.append_nil, List.mem_append] at hp
    rcases hp with hp | hp
    · have := q0 p hp; omega
    · have := q1 p hp; omega

def bulk_An (x : DAn) : Nat := (bulk_I x.1) + (bulk_II x.2)

end Go.Proofs.YtpgfkjcekhifiaaDoor

/- Kind As: shape, size, copy, comparison. Written by a program. -/
namespace Go.Proofs.YtpgfkjcekhifiaaDoor
open Go.RowKit
set_option linter.unusedVariables false
set_option linter.unusedSimpArgs false
set_option synthInstance.maxSize 2000
set_option synthInstance.maxHeartbeats 400000

def rAs : RS (List DA) := R.slice rA
def oAs : OS (List DA) := O.slice 43 oA
theorem reads_As : Reads oAs rAs := Reads.slice _ reads_A
theorem rAs_form {w : World} {cs : List Value} {xs : List DA} (h : rAs.rep w cs xs) : ∃ b n c, cs = [.slice b n c] := rS_form h
theorem oAs_form1 {lo hi : Nat} {w : World} {v : Value} {xs : List DA} (h : Own oAs lo hi w [v] xs) : ∃ b n c, v = .slice b n c := oS_form1 reads_A h
def bulk_As (xs : List DA) : Nat := xs.length + sumBy bulk_A xs

set_option maxHeartbeats 2000000 in
theorem eq_As (u v : Value) (xs ys : List DA) (w : World) (h : rAs.rep w [u] xs) (h' : rAs.rep w [v] ys) :
    Calls Tryd.prog 31 #[u, v] w fun e w' => e = .returned (.bool (decide (xs = ys))) ∧ Below w.heap.size w w' := by
  obtain ⟨a, cap, rfl, _, _, hi⟩ := rS_open h
  obtain ⟨a', cap', rfl, _, _, hi'⟩ := rS_open h'
  clear h h'
  have hn := hi.small
  have hn' := hi'.small
  obtain ⟨n, hl⟩ : ∃ n, xs.length = n := ⟨_, rfl⟩
  obtain ⟨m, hl'⟩ : ∃ n, ys.length = n := ⟨_, rfl⟩
  rw [hl] at hi hn ⊢
  rw [hl'] at hi' hn' ⊢
  by_cases hnm : n = m
  case neg =>
    have HE := Lib.hid (show decide (xs = ys) = false by simp only [decide_eq_false_iff_not]; intro e; subst e; omega)
    have hne : ((n : Int) != (m : Int)) = true := by rw [bne_iff_ne]; omega
    clear hl hl' hi hi'
    go_enter Tryd.func31, Tryd.ntmps31
    go_wp2_with fail
    go_ret
    exact ⟨ret_bool HE.out.symm, Below.refl _ _⟩
  subst hnm
  go_enter Tryd.func31, Tryd.ntmps31
  go_wp2_with fail
  go_loopw [5] (fun k wr => ∃ j : Nat, j ≤ n ∧ k = .int .i64 j ∧ Hid (xs.take j = ys.take j) ∧ Below w.heap.size w wr) (fun k _ => n - (intOf k).toNat)
  case atStart => exact ⟨0, Nat.zero_le _, rfl, rfl, Below.refl _ _⟩
  case round =>
    obtain ⟨j, hj, rfl, hE, hb⟩ := hrel
    by_cases hlt : j < n
    · obtain ⟨b, off, cs, x, rfl, hx, hr, hc⟩ := (hi.below hb).at hlt
      obtain ⟨b', off', ds, y, rfl, hy, hr', hd⟩ := (hi'.below hb).at hlt
      obtain ⟨ub1, un1, uc1, rfl⟩ := rA_form hr
      obtain ⟨vb1, vn1, vc1, rfl⟩ := rA_form hr'
      have c0 : wr.cell? ⟨b, off + j * 2, none⟩ = some (.string x.1) := by have h9 := hc 0 _ rfl; rw [← Nat.add_assoc] at h9; exact h9
      have c1 : wr.cell? ⟨b, off + j * 2 + 1, none⟩ = some (.slice ub1 un1 uc1) := by have h9 := hc 1 _ rfl; rw [← Nat.add_assoc] at h9; exact h9
      have d0 : wr.cell? ⟨b', off' + j * 2, none⟩ = some (.string y.1) := by have h9 := hd 0 _ rfl; rw [← Nat.add_assoc] at h9; exact h9
      have d1 : wr.cell? ⟨b', off' + j * 2 + 1, none⟩ = some (.slice vb1 vn1 vc1) := by have h9 := hd 1 _ rfl; rw [← Nat.add_assoc] at h9; exact h9
      have hcall := fun (W : World) (hW : Below wr.heap.size wr W) => eq_A _ _ x y W (rA.mono hr hW) (rA.mono hr' hW)
      obtain ⟨t, ht⟩ : ∃ t, t = decide (x = y) := ⟨_, rfl⟩
      rw [← ht] at hcall
      have HC := Lib.hid hcall
      clear hcall hi hi' hr hr' hc hd
      have HT : Hid (if t = true then xs.take (j + 1) = ys.take (j + 1) else decide (xs = ys) = false) := by
        cases t
        · simp only [Bool.false_eq_true, if_false]
          have hxy : x ≠ y := by simpa using ht.symm
          simp only [Hid, Bool.false_eq_true, if_false, decide_eq_false_iff_not]; intro e; subst e; exact hxy (Option.some.inj (hx.out.symm.trans hy.out))
        · have hxy : x = y := by simpa using ht.symm
          simp only [Hid, if_true]; rw [take_snoc' xs j x hx.out, take_snoc' ys j y hy.out, hE.out, hxy]
      clear ht hx hy hE
      have lb : b < wr.heap.size := cell_lt c0
      have lb' : b' < wr.heap.size := cell_lt d0
      go_wp2_with fail
      go_region_held3 (fun W => W.cell? ⟨b, off + j * 2, none⟩ = some (.string x.1) ∧ W.cell? ⟨b, off + j * 2 + 1, none⟩ = some (.slice ub1 un1 uc1) ∧ W.cell? ⟨b', off' + j * 2, none⟩ = some (.string y.1) ∧ W.cell? ⟨b', off' + j * 2 + 1, none⟩ = some (.slice vb1 vn1 vc1)) (first | exact ⟨c0, c1, d0, d1⟩ | assumption) ((go_at_call 61; refine (HC.out _ (Below.refl _ _).drew).mono ?_; rintro e w1 ⟨rfl, z1⟩; replace z1 : Below wr.heap.size wr w1 := (Below.refl _ _).drew.trans z1; have hS0 := (⟨(z1.cell (p := ⟨b, off + j * 2, none⟩) (by simp only []; omega)).trans c0, (z1.cell (p := ⟨b, off + j * 2 + 1, none⟩) (by simp only []; omega)).trans c1, (z1.cell (p := ⟨b', off' + j * 2, none⟩) (by simp only []; omega)).trans d0, (z1.cell (p := ⟨b', off' + j * 2 + 1, none⟩) (by simp only []; omega)).trans d1⟩ : (fun W => W.cell? ⟨b, off + j * 2, none⟩ = some (.string x.1) ∧ W.cell? ⟨b, off + j * 2 + 1, none⟩ = some (.slice ub1 un1 uc1) ∧ W.cell? ⟨b', off' + j * 2, none⟩ = some (.string y.1) ∧ W.cell? ⟨b', off' + j * 2 + 1, none⟩ = some (.slice vb1 vn1 vc1)) w1)))
      replace z1 : Below wr.heap.size wr w1 := z1
      have z2 := on hb z1
      cases t
      · have HE : Hid (decide (xs = ys) = false) := by simpa [Hid] using HT.out
        go_wp2_with fail
        go_ret
        exact ⟨ret_bool HE.out.symm, z2⟩
      · have HE : Hid (xs.take (j + 1) = ys.take (j + 1)) := by simpa [Hid] using HT.out
        go_wp2_with fail
        go_roundw
        case rel => exact ⟨j + 1, by omega, by go_num, HE.out, z2⟩
        case measure => simp [intOf]; omega
    · have HE := Lib.hid (show decide (xs = ys) = true by
        have e := hE.out
        rw [List.take_of_length_le (by omega), List.take_of_length_le (by omega)] at e
        simp [e])
      clear hi hi' hl hl'
      go_wp2_with fail
      go_ret
      exact ⟨ret_bool HE.out.symm, hb⟩

end Go.Proofs.YtpgfkjcekhifiaaDoor

/- Kind T: shape, size, copy, comparison. Written by a program. -/
namespace Go.Proofs.YtpgfkjcekhifiaaDoor
open Go.RowKit
set_option linter.unusedVariables false
set_option linter.unusedSimpArgs false
set_option synthInstance.maxSize 2000
set_option synthInstance.maxHeartbeats 400000

abbrev DT := ByteArray × Int × List (List Int)
def rT : RS DT := R.pair R.str (R.pair R.int rII)
def oT : OS DT := O.pair O.str (O.pair O.int oII)
theorem reads_T : Reads oT rT := Reads.pair Reads.str (Reads.pair Reads.int reads_II)
theorem rT_open {w : World} {cs : List Value} {x : DT} (h : rT.rep w cs x) : ∃ ub2 un2 uc2, cs = [.string x.1, .int .i64 x.2.1, .slice ub2 un2 uc2] ∧ x.1.size ≤ 9223372036854775807 ∧ I64 x.2.1 ∧ rII.rep w [.slice ub2 un2 uc2] x.2.2 := by
  obtain ⟨c0a, c0b, rfl, ⟨rfl, hs0⟩, ⟨c1a, c1b, rfl, ⟨rfl, hi1⟩, hr2⟩⟩ := h
  obtain ⟨ub2, un2, uc2, rfl⟩ := rII_form hr2
  exact ⟨_, _, _, rfl, hs0, hi1, hr2⟩
theorem rT_form {w : World} {cs : List Value} {x : DT} (h : rT.rep w cs x) : ∃ ub2 un2 uc2, cs = [.string x.1, .int .i64 x.2.1, .slice ub2 un2 uc2] := by
  obtain ⟨ub2, un2, uc2, h1, _⟩ := rT_open h
  exact ⟨_, _, _, h1⟩
theorem rT_mk {w : World} {ub2 : Option Addr} {un2 uc2 : Nat} {x : DT} (h0 : x.1.size ≤ 9223372036854775807) (h1 : I64 x.2.1) (h2 : rII.rep w [.slice ub2 un2 uc2] x.2.2) : rT.rep w [.string x.1, .int .i64 x.2.1, .slice ub2 un2 uc2] x :=
  ⟨[.string x.1], [.int .i64 x.2.1, .slice ub2 un2 uc2], rfl, ⟨rfl, h0⟩, ⟨[.int .i64 x.2.1], [.slice ub2 un2 uc2], rfl, ⟨rfl, h1⟩, h2⟩⟩
theorem oT_form {lo hi : Nat} {w : World} {cs : List Value} {x : DT} (h : Own oT lo hi w cs x) : ∃ ub2 un2 uc2, cs = [.string x.1, .int .i64 x.2.1, .slice ub2 un2 uc2] := rT_form (h.rd reads_T)

theorem oT_mk {lo hi l2 m2 : Nat} {w : World} {ub2 : Option Addr} {un2 uc2 : Nat} {x : DT} (hs0 : x.1.size ≤ 9223372036854775807) (hi1 : I64 x.2.1) (ho2 : Own oII l2 m2 w [.slice ub2 un2 uc2] x.2.2) (a2 : lo ≤ l2) (b2 : m2 ≤ hi)  : Own oT lo hi w [.string x.1, .int .i64 x.2.1, .slice ub2 un2 uc2] x := by
  obtain ⟨f2, r2, n2, q2⟩ := ho2
  refine ⟨([] ++ ([] ++ f2)), ⟨[.string x.1], [.int .i64 x.2.1, .slice ub2 un2 uc2], [], ([] ++ f2), rfl, rfl, ⟨rfl, hs0, rfl⟩, ⟨[.int .i64 x.2.1], [.slice ub2 un2 uc2], [], f2, rfl, rfl, ⟨rfl, hi1, rfl⟩, r2⟩⟩, ?_, ?_⟩
  · try simp only [List.nil_append, List.append_nil]
    exact n2
  · intro p hp
    try simp only [List.nil_append, List.append_nil, List.mem_append] at hp
    have := q2 p hp; omega

def bulk_T (x : DT) : Nat := (x.1.size) + (bulk_II x.2.2)

end Go.Proofs.YtpgfkjcekhifiaaDoor

/- Contracts: rows of ints: in range, ascending. -/
namespace Go.Proofs.YtpgfkjcekhifiaaDoor
open Go.RowKit
set_option linter.unusedVariables false
set_option linter.unusedSimpArgs false

/-- A row: all values in range, so many. -/
def rowB (row : List Int) (n : Int) : Bool := row.all (fun v => betw v 0 9) && decide ((row.length : Int) = n)
def rowsB (n : Int) (rows : List (List Int)) : Bool := rows.all (fun r => rowB r n)
/-- Rows strictly ascending. -/
def ascB : List (List Int) → Bool
  | a :: b :: t => decide (cmpRows a b < 0) && ascB (b :: t)
  | _ => true
theorem all_at {p : Int → Bool} {xs : List Int} {j : Nat} {x : Int} (hj : j < xs.length) (hx : xs.getD j 0 = x) : (xs.drop j).all p = (p x && (xs.drop (j + 1)).all p) := by
  rw [drop_cons xs j hj, hx]; rfl
theorem all_end {p : Int → Bool} {xs : List Int} {j : Nat} (hj : xs.length ≤ j) : (xs.drop j).all p = true := by
  rw [List.drop_eq_nil_of_le hj]; rfl
theorem drop_at {α : Type} {xs : List α} {j : Nat} {x : α} (h : xs[j]? = some x) : xs.drop j = x :: xs.drop (j + 1) := by
  obtain ⟨h1, rfl⟩ := List.getElem?_eq_some_iff.1 h
  exact List.drop_eq_getElem_cons h1
theorem rowsB_at {n : Int} {rows : List (List Int)} {j : Nat} {r : List Int} (h : rows[j]? = some r) : rowsB n (rows.drop j) = (rowB r n && rowsB n (rows.drop (j + 1))) := by
  rw [drop_at h]; rfl
theorem rowsB_end {n : Int} {rows : List (List Int)} {j : Nat} (hj : rows.length ≤ j) : rowsB n (rows.drop j) = true := by
  rw [List.drop_eq_nil_of_le hj]; rfl
theorem ascB_at {rows : List (List Int)} {j : Nat} {r s : List Int} (h : rows[j]? = some r) (h' : rows[j + 1]? = some s) : ascB (rows.drop j) = (decide (cmpRows r s < 0) && ascB (rows.drop (j + 1))) := by
  rw [drop_at h, drop_at h']; rfl
theorem ascB_end {rows : List (List Int)} {j : Nat} (hj : rows.length ≤ j + 1) : ascB (rows.drop j) = true := by
  have : (rows.drop j).length ≤ 1 := by rw [List.length_drop]; omega
  match h : rows.drop j, this with
  | [], _ => rfl
  | [a], _ => rfl

theorem rowB_no {row : List Int} {n : Int} {j : Nat} (h : rowB row n = ((row.drop j).all (fun v => betw v 0 9) && decide ((row.length : Int) = n))) {x : Int} (hj : j < row.length) (hx : row.getD j 0 = x) (hb : betw x 0 9 = false) : rowB row n = false := by
  rw [h, all_at hj hx, hb]; rfl

/-- Numbers compared. -/
def cmpI (x y : Int) : Int := if x < y then -1 else if y < x then 1 else 0

end Go.Proofs.YtpgfkjcekhifiaaDoor

/- Plain: rows in order, each once. -/
namespace Go.Proofs.YtpgfkjcekhifiaaDoor
open Go.RowKit
set_option linter.unusedVariables false
set_option linter.unusedSimpArgs false

/-- Strictly ascending. -/
def Asc (l : List (List Int)) : Prop := l.Pairwise (fun a b => cmpRows a b < 0)
theorem cmpRows_lt_iff {a b : List Int} : cmpRows a b < 0 ↔ cmpRows a b = -1 := by
  have := cmpRows_rng a b; omega
theorem cmpRows_gt_iff {a b : List Int} : 0 < cmpRows a b ↔ cmpRows b a < 0 := by
  rw [cmpRows_swap a b]; omega
theorem cmpRows_lt_trans {a b c : List Int} (h : cmpRows a b < 0) (k : cmpRows b c < 0) : cmpRows a c < 0 :=
  cmpRows_lt_iff.2 (cmpRows_trans a b c (cmpRows_lt_iff.1 h) (cmpRows_lt_iff.1 k))
theorem ascB_asc : ∀ {l : List (List Int)}, ascB l = true ↔ Asc l
  | [] => by simp [ascB, Asc]
  | [x] => by simp [ascB, Asc]
  | x :: y :: t => by
    have ih := @ascB_asc (y :: t)
    simp only [ascB, Bool.and_eq_true, decide_eq_true_eq, ih, Asc, List.pairwise_cons]
    constructor
    · rintro ⟨h, k⟩
      refine ⟨fun z hz => ?_, k⟩
      rcases List.mem_cons.1 hz with rfl | hz
      · exact h
      · exact cmpRows_lt_trans h (k.1 z hz)
    · rintro ⟨h, k⟩
      exact ⟨h y (List.mem_cons_self ..), k⟩
theorem Asc.uniq : ∀ {l m : List (List Int)}, Asc l → Asc m → (∀ x, x ∈ l ↔ x ∈ m) → l = m
  | [], [], _, _, _ => rfl
  | [], y :: m, _, _, h => by have := (h y).2 (List.mem_cons_self ..); cases this
  | x :: l, [], _, _, h => by have := (h x).1 (List.mem_cons_self ..); cases this
  | x :: l, y :: m, hl, hm, h => by
    have hl' := List.pairwise_cons.1 hl
    have hm' := List.pairwise_cons.1 hm
    have irr : ∀ z : List Int, ¬ cmpRows z z < 0 := fun z => by rw [cmpRows_self]; omega
    have e : x = y := by
      rcases List.mem_cons.1 ((h x).1 (List.mem_cons_self ..)) with hx | hx
      · exact hx
      · rcases List.mem_cons.1 ((h y).2 (List.mem_cons_self ..)) with hy | hy
        · exact hy.symm
        · exact absurd (cmpRows_lt_trans (hm'.1 x hx) (hl'.1 y hy)) (irr y)
    subst e
    rw [Asc.uniq hl'.2 hm'.2 fun z => ?_]
    constructor
    · intro hz
      rcases List.mem_cons.1 ((h z).1 (List.mem_cons_of_mem _ hz)) with rfl | hz'
      · exact absurd (hl'.1 z hz) (irr z)
      · exact hz'
    · intro hz
      rcases List.mem_cons.1 ((h z).2 (List.mem_cons_of_mem _ hz)) with rfl | hz'
      · exact absurd (hm'.1 z hz) (irr z)
      · exact hz'

/-- A row put among rows, in the reference's way: 'put' is whether it has been put. -/
def putL (r : List Int) : Bool → List (List Int) → List (List Int)
  | put, [] => if put then [] else [r]
  | put, x :: t => if decide (0 < cmpRows x r) && !(put || decide (cmpRows x r = 0)) then r :: x :: putL r true t else x :: putL r (put || decide (cmpRows x r = 0)) t
theorem putL_true (r : List Int) : ∀ l, putL r true l = l
  | [] => rfl
  | x :: t => by simp [putL, putL_true r t]
theorem putL_mem (r : List Int) : ∀ {l : List (List Int)} {z : List Int}, z ∈ putL r false l ↔ z = r ∨ z ∈ l
  | [], z => by simp [putL]
  | x :: t, z => by
    have ih := @putL_mem r t z
    unfold putL
    by_cases h0 : cmpRows x r = 0
    · have := (cmpRows_zero x r).1 h0
      subst this
      simp [h0, putL_true]
    · by_cases h1 : 0 < cmpRows x r
      · simp [h0, h1, putL_true]
      · simp only [h0, h1, decide_false, Bool.false_and, Bool.or_self, Bool.false_eq_true, if_false, List.mem_cons, ih]
        constructor
        · rintro (h | h | h)
          · exact .inr (.inl h)
          · exact .inl h
          · exact .inr (.inr h)
        · rintro (h | h | h)
          · exact .inr (.inl h)
          · exact .inl h
          · exact .inr (.inr h)
theorem putL_asc (r : List Int) : ∀ {l : List (List Int)}, Asc l → Asc (putL r false l)
  | [], _ => by simp [putL, Asc]
  | x :: t, h => by
    have h' := List.pairwise_cons.1 h
    unfold putL
    by_cases h0 : cmpRows x r = 0
    · simp [h0, putL_true]; exact h
    · by_cases h1 : 0 < cmpRows x r
      · have hr : cmpRows r x < 0 := cmpRows_gt_iff.1 h1
        simp only [h0, h1, decide_true, decide_false, Bool.or_self, Bool.not_false, Bool.and_self, if_true, putL_true]
        refine List.pairwise_cons.2 ⟨fun z hz => ?_, h⟩
        rcases List.mem_cons.1 hz with rfl | hz
        · exact hr
        · exact cmpRows_lt_trans hr (h'.1 z hz)
      · have hx : cmpRows x r < 0 := by omega
        simp only [h0, h1, decide_false, Bool.false_and, Bool.or_self, Bool.false_eq_true, if_false]
        refine List.pairwise_cons.2 ⟨fun z hz => ?_, putL_asc r h'.2⟩
        rcases (putL_mem r).1 hz with rfl | hz
        · exact hx
        · exact h'.1 z hz
theorem putL_len (r : List Int) : ∀ (b : Bool) (l : List (List Int)), (putL r b l).length ≤ l.length + 1
  | b, [] => by unfold putL; split <;> simp
  | b, x :: t => by
    unfold putL
    split
    · rw [putL_true]; simp
    · have := putL_len r (b || decide (cmpRows x r = 0)) t
      simp only [List.length_cons]; omega
/-- Rows in order, each once. -/
def canon (l : List (List Int)) : List (List Int) := l.foldl (fun acc r => putL r false acc) []
theorem canon_go : ∀ (l acc : List (List Int)), Asc acc → Asc (l.foldl (fun acc r => putL r false acc) acc) ∧ ∀ z, z ∈ l.foldl (fun acc r => putL r false acc) acc ↔ z ∈ acc ∨ z ∈ l
  | [], acc, h => ⟨h, fun z => by simp⟩
  | r :: t, acc, h => by
    obtain ⟨h1, h2⟩ := canon_go t (putL r false acc) (putL_asc r h)
    refine ⟨h1, fun z => ?_⟩
    rw [List.foldl_cons, h2 z, putL_mem]
    simp only [List.mem_cons]
    constructor
    · rintro ((h | h) | h)
      · exact .inr (.inl h)
      · exact .inl h
      · exact .inr (.inr h)
    · rintro (h | h | h)
      · exact .inl (.inr h)
      · exact .inl (.inl h)
      · exact .inr h
theorem canon_asc (l : List (List Int)) : Asc (canon l) := (canon_go l [] List.Pairwise.nil).1
theorem canon_mem {l : List (List Int)} {z : List Int} : z ∈ canon l ↔ z ∈ l := by
  have := (canon_go l [] List.Pairwise.nil).2 z
  simpa [canon] using this
theorem canon_uniq {l m : List (List Int)} (h : Asc m) (hm : ∀ z, z ∈ m ↔ z ∈ l) : m = canon l :=
  h.uniq (canon_asc l) fun z => by rw [hm, canon_mem]
theorem canon_snoc (l : List (List Int)) (r : List Int) : canon (l ++ [r]) = putL r false (canon l) := by simp [canon]
theorem canon_len (l : List (List Int)) : (canon l).length ≤ l.length := by
  have key : ∀ (l acc : List (List Int)), (l.foldl (fun acc r => putL r false acc) acc).length ≤ acc.length + l.length := by
    intro l
    induction l with
    | nil => intro acc; simp
    | cons r t ih =>
      intro acc
      have h1 := ih (putL r false acc)
      have h2 := putL_len r false acc
      simp only [List.foldl_cons, List.length_cons]
      omega
  simpa [canon] using key l []
theorem canon_id {l : List (List Int)} (h : Asc l) : canon l = l := (canon_uniq h fun _ => Iff.rfl).symm

/-- Neighbours that are equal, one of them alone: behind p. -/
def dedupFrom (p : List Int) : List (List Int) → List (List Int)
  | [] => []
  | x :: t => if x = p then dedupFrom p t else x :: dedupFrom x t
def dedup : List (List Int) → List (List Int)
  | [] => []
  | x :: t => x :: dedupFrom x t
theorem dedupFrom_spec : ∀ {p : List Int} {l : List (List Int)}, (p :: l).Pairwise (fun a b => ¬ cmpRows b a < 0) → Asc (p :: dedupFrom p l) ∧ ∀ z, z ∈ p :: dedupFrom p l ↔ z ∈ p :: l
  | p, [], _ => ⟨List.pairwise_cons.2 ⟨fun z hz => by simp [dedupFrom] at hz, List.Pairwise.nil⟩, fun z => Iff.rfl⟩
  | p, x :: t, h => by
    have h1 := List.pairwise_cons.1 h
    have h2 := List.pairwise_cons.1 h1.2
    unfold dedupFrom
    by_cases e : x = p
    · subst e
      rw [if_pos rfl]
      obtain ⟨a, b⟩ := @dedupFrom_spec x t h1.2
      refine ⟨a, fun z => ?_⟩
      rw [b z]; simp
    · rw [if_neg e]
      obtain ⟨a, b⟩ := @dedupFrom_spec x t h1.2
      have hpx : cmpRows p x < 0 := by
        have h3 := h1.1 x (List.mem_cons_self ..)
        have h4 := cmpRows_rng p x
        have h5 := cmpRows_swap p x
        have h6 : cmpRows p x ≠ 0 := fun h => e ((cmpRows_zero p x).1 h).symm
        omega
      have a' := List.pairwise_cons.1 a
      refine ⟨List.pairwise_cons.2 ⟨fun z hz => ?_, a⟩, fun z => ?_⟩
      · rcases List.mem_cons.1 hz with rfl | hz
        · exact hpx
        · exact cmpRows_lt_trans hpx (a'.1 z hz)
      · rw [List.mem_cons, b z]; exact (List.mem_cons).symm
theorem dedup_canon {l m : List (List Int)} (h : l.Pairwise (fun a b => ¬ cmpRows b a < 0)) (hm : ∀ z, z ∈ l ↔ z ∈ m) : dedup l = canon m := by
  cases l with
  | nil => exact canon_uniq List.Pairwise.nil hm
  | cons x t =>
    obtain ⟨a, b⟩ := dedupFrom_spec h
    exact canon_uniq a fun z => (b z).trans (hm z)
/-- How often a row stands among rows. -/
def cntRow (r : List Int) (l : List (List Int)) : Nat := (l.filter (fun x => decide (x = r))).length

end Go.Proofs.YtpgfkjcekhifiaaDoor

/- Kind Q: shape, size, copy, comparison. Written by a program. -/
namespace Go.Proofs.YtpgfkjcekhifiaaDoor
open Go.RowKit
set_option linter.unusedVariables false
set_option linter.unusedSimpArgs false
set_option synthInstance.maxSize 2000
set_option synthInstance.maxHeartbeats 400000

abbrev DQ := Int × List DA
def rQ : RS DQ := R.pair R.int rAs
def oQ : OS DQ := O.pair O.int oAs
theorem reads_Q : Reads oQ rQ := Reads.pair Reads.int reads_As
theorem rQ_open {w : World} {cs : List Value} {x : DQ} (h : rQ.rep w cs x) : ∃ ub1 un1 uc1, cs = [.int .i64 x.1, .slice ub1 un1 uc1] ∧ I64 x.1 ∧ rAs.rep w [.slice ub1 un1 uc1] x.2 := by
  obtain ⟨c0a, c0b, rfl, ⟨rfl, hi0⟩, hr1⟩ := h
  obtain ⟨ub1, un1, uc1, rfl⟩ := rAs_form hr1
  exact ⟨_, _, _, rfl, hi0, hr1⟩
theorem rQ_form {w : World} {cs : List Value} {x : DQ} (h : rQ.rep w cs x) : ∃ ub1 un1 uc1, cs = [.int .i64 x.1, .slice ub1 un1 uc1] := by
  obtain ⟨ub1, un1, uc1, h1, _⟩ := rQ_open h
  exact ⟨_, _, _, h1⟩
theorem rQ_mk {w : World} {ub1 : Option Addr} {un1 uc1 : Nat} {x : DQ} (h0 : I64 x.1) (h1 : rAs.rep w [.slice ub1 un1 uc1] x.2) : rQ.rep w [.int .i64 x.1, .slice ub1 un1 uc1] x :=
  ⟨[.int .i64 x.1], [.slice ub1 un1 uc1], rfl, ⟨rfl, h0⟩, h1⟩
theorem oQ_form {lo hi : Nat} {w : World} {cs : List Value} {x : DQ} (h : Own oQ lo hi w cs x) : ∃ ub1 un1 uc1, cs = [.int .i64 x.1, .slice ub1 un1 uc1] := rQ_form (h.rd reads_Q)

theorem oQ_mk {lo hi l1 m1 : Nat} {w : World} {ub1 : Option Addr} {un1 uc1 : Nat} {x : DQ} (hi0 : I64 x.1) (ho1 : Own oAs l1 m1 w [.slice ub1 un1 uc1] x.2) (a1 : lo ≤ l1) (b1 : m1 ≤ hi)  : Own oQ lo hi w [.int .i64 x.1, .slice ub1 un1 uc1] x := by
  obtain ⟨f1, r1, n1, q1⟩ := ho1
  refine ⟨([] ++ f1), ⟨[.int .i64 x.1], [.slice ub1 un1 uc1], [], f1, rfl, rfl, ⟨rfl, hi0, rfl⟩, r1⟩, ?_, ?_⟩
  · try simp only [List.nil_append, List.append_nil]
    exact n1
  · intro p hp
    try simp only [List.nil_append, List.append_nil, List.mem_append] at hp
    have := q1 p hp; omega

def bulk_Q (x : DQ) : Nat := bulk_As x.2

set_option maxHeartbeats 2000000 in
theorem eq_Q (cs ds : List Value) (x y : DQ) (w : World) (h : rQ.rep w cs x) (h' : rQ.rep w ds y) :
    Calls Tryd.prog 7 #[.agg cs.toArray, .agg ds.toArray] w fun e w' => e = .returned (.bool (decide (x = y))) ∧ Below w.heap.size w w' := by
  obtain ⟨ub1, un1, uc1, rfl, g0, g1⟩ := rQ_open h
  obtain ⟨vb1, vn1, vc1, rfl, k0, k1⟩ := rQ_open h'
  clear h h'
  have hb1 : Below w.heap.size w ((w.alloc (.cells #[.int .i64 x.1, .slice ub1 un1 uc1] 24)).alloc (.cells #[.int .i64 y.1, .slice vb1 vn1 vc1] 24)) := ((Below.refl _ _).alloc (Nat.le_refl _) _).alloc (by simp) _
  go_enter Tryd.func7, Tryd.ntmps7
  obtain ⟨w1, hw1⟩ : ∃ W, W = (w.alloc (.cells #[.int .i64 x.1, .slice ub1 un1 uc1] 24)).alloc (.cells #[.int .i64 y.1, .slice vb1 vn1 vc1] 24) := ⟨_, rfl⟩
  have s1 : w1.heap.size = w.heap.size + 1 + 1 := by rw [hw1]; simp
  rw [← hw1] at hb1
  have bc_0 : w1.cell? ⟨w.heap.size, 0, none⟩ = some (.int .i64 x.1) := by rw [hw1]; simp [go_sem, World.cell?_alloc_past]
  have bd_0 : w1.cell? ⟨w.heap.size + 1, 0, none⟩ = some (.int .i64 y.1) := by rw [hw1]; simp [go_sem, World.cell?_alloc_past]
  have bc_1 : w1.cell? ⟨w.heap.size, 1, none⟩ = some (.slice ub1 un1 uc1) := by rw [hw1]; simp [go_sem, World.cell?_alloc_past]
  have bd_1 : w1.cell? ⟨w.heap.size + 1, 1, none⟩ = some (.slice vb1 vn1 vc1) := by rw [hw1]; simp [go_sem, World.cell?_alloc_past]
  by_cases e0 : x.1 = y.1
  case neg =>
    have HE := Lib.hid (show decide (x = y) = false by simp only [decide_eq_false_iff_not]; intro h9; exact e0 (by rw [h9]))
    have hne := bne_iff_ne.2 e0
    clear e0
    go_wp2_with fail
    go_ret
    exact ⟨ret_bool HE.out.symm, by first | exact hb1 | (rw [hw1] at hb1; exact hb1)⟩
  have E0 := Lib.hid e0
  have hq0 : (x.1 != y.1) = false := by rw [e0]; simp
  clear e0
  go_wp2_with fail
  rw [← hw1]
  clear hw1
  refine (eq_As _ _ (x.2) (y.2) _ (rAs.mono g1 hb1) (rAs.mono k1 hb1)).mono ?_
  rintro e w2 ⟨rfl, z2⟩
  have s2 := z2.size
  have hb2 := on hb1 z2
  replace bc_0 := (z2.cell (p := ⟨w.heap.size, 0, none⟩) (by simp only []; omega)).trans bc_0
  replace bd_0 := (z2.cell (p := ⟨w.heap.size + 1, 0, none⟩) (by simp only []; omega)).trans bd_0
  replace bc_1 := (z2.cell (p := ⟨w.heap.size, 1, none⟩) (by simp only []; omega)).trans bc_1
  replace bd_1 := (z2.cell (p := ⟨w.heap.size + 1, 1, none⟩) (by simp only []; omega)).trans bd_1
  by_cases e1 : x.2 = y.2
  case neg =>
    have HE := Lib.hid (show decide (x = y) = false by simp only [decide_eq_false_iff_not]; intro h9; exact e1 (by rw [h9]))
    have hne : decide (x.2 = y.2) = false := by simpa using e1
    rw [hne]
    clear e1 hne
    go_wp2_with fail
    go_ret
    exact ⟨ret_bool HE.out.symm, hb2⟩
  have E1 := Lib.hid e1
  have hq1 : decide (x.2 = y.2) = true := by simpa using e1
  rw [hq1]
  clear e1 hq1
  have HE := Lib.hid (show decide (x = y) = true by simp only [decide_eq_true_eq]; exact Prod.ext E0.out (E1.out))
  go_wp2_with fail
  go_ret
  exact ⟨ret_bool HE.out.symm, hb2⟩

end Go.Proofs.YtpgfkjcekhifiaaDoor

/- Kind Tl: shape, size, copy, comparison. Written by a program. -/
namespace Go.Proofs.YtpgfkjcekhifiaaDoor
open Go.RowKit
set_option linter.unusedVariables false
set_option linter.unusedSimpArgs false
set_option synthInstance.maxSize 2000
set_option synthInstance.maxHeartbeats 400000

def rTl : RS (List DT) := R.slice rT

theorem rTl_form {w : World} {cs : List Value} {xs : List DT} (h : rTl.rep w cs xs) : ∃ b n c, cs = [.slice b n c] := rS_form h

def bulk_Tl (xs : List DT) : Nat := xs.length + sumBy bulk_T xs

end Go.Proofs.YtpgfkjcekhifiaaDoor

/- The laws' marks: what they turn. -/
namespace Go.Proofs.YtpgfkjcekhifiaaDoor
open Go.RowKit
set_option linter.unusedVariables false
set_option linter.unusedSimpArgs false

/-- Of the blocks that stood in w, at most those of fp have turned. -/
structure Alt (fp : List Nat) (w w' : World) : Prop where
  os : w'.os = w.os
  tape : w'.tape = w.tape
  output : w'.output = w.output
  size : w.heap.size ≤ w'.heap.size
  block : ∀ k, k < w.heap.size → k ∉ fp → w'.heap[k]? = w.heap[k]?
theorem Alt.refl (fp : List Nat) (w : World) : Alt fp w w := ⟨rfl, rfl, rfl, Nat.le_refl _, fun _ _ _ => rfl⟩
theorem Alt.trans {fp : List Nat} {a b c : World} (h : Alt fp a b) (k : Alt fp b c) : Alt fp a c :=
  ⟨k.os.trans h.os, k.tape.trans h.tape, k.output.trans h.output, Nat.le_trans h.size k.size, fun i hi hn => (k.block i (Nat.lt_of_lt_of_le hi h.size) hn).trans (h.block i hi hn)⟩
theorem Alt.mono {fp fq : List Nat} {w w' : World} (h : Alt fp w w') (hs : ∀ k ∈ fp, k ∈ fq) : Alt fq w w' :=
  ⟨h.os, h.tape, h.output, h.size, fun k hk hn => h.block k hk (fun hm => hn (hs k hm))⟩
theorem Alt.only {fp : List Nat} {w w' : World} (h : Only fp w w') : Alt fp w w' := ⟨h.os, h.tape, h.output, by rw [h.size]; exact Nat.le_refl _, fun k _ hn => h.block k hn⟩
theorem Alt.below {fp : List Nat} {w w' : World} (h : Below w.heap.size w w') : Alt fp w w' := ⟨h.os, h.tape, h.output, h.size, fun k hk _ => h.block k hk⟩
theorem Alt.set {fp : List Nat} {w : World} {p : Addr} (hp : p.block ∈ fp) (u : Value) : Alt fp w (w.setCell p u) :=
  ⟨rfl, rfl, rfl, by simp [World.setCell], fun k hk hn => Below.heap_setCell _ _ _ _ (fun e => hn (e ▸ hp))⟩
theorem Alt.turn {fp : List Nat} {lo hi : Nat} {w w' : World} (h : Alt fp w w') (hk : ∀ k ∈ fp, lo ≤ k ∧ k < hi) : Turn lo hi w w' :=
  ⟨h.os, h.tape, h.output, h.size, fun k h1 h2 => h.block k h1 (fun hm => by have := hk k hm; omega)⟩

/-- Marks laid one behind the other. -/
def mkL {α : Type} (m : Int → α → α) (c : α → Nat) : Int → List α → List α
  | _, [] => []
  | k, x :: t => m k x :: mkL m c (k + c x) t
theorem mkL_len {α : Type} (m : Int → α → α) (c : α → Nat) : ∀ (k : Int) (xs : List α), (mkL m c k xs).length = xs.length
  | _, [] => rfl
  | k, x :: t => by simp [mkL, mkL_len m c]
theorem mkL_get {α : Type} (m : Int → α → α) (c : α → Nat) : ∀ (k : Int) (xs : List α) (j : Nat) (x : α), xs[j]? = some x → (mkL m c k xs)[j]? = some (m (k + sumBy c (xs.take j)) x)
  | k, [], j, x, h => by simp at h
  | k, y :: t, 0, x, h => by simp at h; subst h; simp [mkL, sumBy]
  | k, y :: t, j + 1, x, h => by
    have := mkL_get m c (k + c y) t j x (by simpa using h)
    simp only [mkL, List.getElem?_cons_succ, this, List.take_succ_cons]
    congr 2
    simp [sumBy]; omega
/-- The first j are marked. -/
def mkLTo {α : Type} (m : Int → α → α) (c : α → Nat) (k : Int) (xs : List α) (j : Nat) : List α := (mkL m c k xs).take j ++ xs.drop j
theorem mkLTo_get {α : Type} (m : Int → α → α) (c : α → Nat) (k : Int) (xs : List α) (j : Nat) (x : α) (h : xs[j]? = some x) : (mkLTo m c k xs j)[j]? = some x := by
  have hj := (List.getElem?_eq_some_iff.1 h).1
  unfold mkLTo
  rw [List.getElem?_append_right (by simp [mkL_len]; omega), List.getElem?_drop]
  simp only [List.length_take, mkL_len]
  rw [show min j xs.length = j by omega, show j + (j - j) = j by omega]
  exact h
theorem mkLTo_step {α : Type} (m : Int → α → α) (c : α → Nat) (k : Int) (xs : List α) (j : Nat) (x : α) (h : xs[j]? = some x) : (mkLTo m c k xs j).set j (m (k + sumBy c (xs.take j)) x) = mkLTo m c k xs (j + 1) := by
  have hj := (List.getElem?_eq_some_iff.1 h).1
  unfold mkLTo
  rw [take_snoc' _ _ _ (mkL_get m c k xs j x h), List.set_append_right _ _ (by simp [mkL_len]; omega)]
  have e : xs.drop j = x :: xs.drop (j + 1) := by
    rw [List.drop_eq_getElem_cons hj]; congr 1; exact (List.getElem?_eq_some_iff.1 h).2
  rw [e]
  simp only [List.length_take, mkL_len]
  rw [show j - min j xs.length = 0 by omega]
  simp
theorem mkLTo_all {α : Type} (m : Int → α → α) (c : α → Nat) (k : Int) (xs : List α) {n : Nat} (h : xs.length = n) : mkLTo m c k xs n = mkL m c k xs := by
  subst h
  unfold mkLTo
  rw [List.take_of_length_le (by rw [mkL_len]; exact Nat.le_refl _)]
  simp
theorem mkLTo_zero {α : Type} (m : Int → α → α) (c : α → Nat) (k : Int) (xs : List α) : mkLTo m c k xs 0 = xs := by simp [mkLTo]


/-- One element of an owned slice, its cells in the slice's block. -/
theorem slice_at {α : Type} {t : TypeId} {o : OS α} {w : World} {a : Option Addr} {n cap : Nat} {xs : List α} {fp : List Nat} (h : (O.slice t o).rep w [.slice a n cap] xs fp) (hn : fp.Nodup) {i : Nat} {x : α} (hx : xs[i]? = some x) :
    ∃ g c f pre post E, a = some ⟨g, 0, none⟩ ∧ g ∈ fp ∧ g ∉ f ∧ g < w.heap.size ∧ o.rep w c x f ∧ f.Nodup ∧ (∀ k ∈ f, k ∈ fp) ∧ pre.length = i * o.size ∧ w.heap[g]? = some (.cells (pre ++ (c ++ post)).toArray E) ∧
      ∀ w' x' c', o.rep w' c' x' f → w'.heap[g]? = some (.cells (pre ++ (c' ++ post)).toArray E) → (∀ k ∈ fp, k ≠ g → k ∉ f → w'.heap[k]? = w.heap[k]?) → (O.slice t o).rep w' [.slice a n cap] (xs.set i x') fp := by
  have hlt := (O.slice t o).lt h
  obtain ⟨v, css, fps, hv, rfl, h1, h2⟩ := h
  simp at hv
  subst hv
  obtain ⟨c, f, hc, hf, hr⟩ := o.rows_get h2 i x hx
  have hnl := List.nodup_append.1 hn
  have hmem : ∀ k ∈ f, k ∈ fps.flatten := fun k hk => List.mem_flatten.2 ⟨f, List.mem_of_getElem? hf, hk⟩
  have hsub : f.Sublist fps.flatten := List.sublist_flatten_of_mem (List.mem_of_getElem? hf)
  have hix := (List.getElem?_eq_some_iff.1 hx).1
  have hic := (List.getElem?_eq_some_iff.1 hc).1
  rcases h1.2 with ⟨hv, h0⟩ | ⟨g, cap', cur, hv, hB, hg, hnc, hcm, hcs, htake⟩
  · omega
  simp at hv
  obtain ⟨rfl, rfl, rfl⟩ := hv
  have hcl := o.len hr
  have hgf : g ∉ f := fun hm => hnl.2.2 g (by simp [bl, Value.ownBlock]) g (hmem g hm) rfl
  have hsplit : css = css.take i ++ c :: css.drop (i + 1) := by
    conv => lhs; rw [← List.take_append_drop i css]
    rw [List.drop_eq_getElem_cons hic]
    congr 2
    exact (List.getElem?_eq_some_iff.1 hc).2
  have hpre : ((css.take i).flatten).length = i * o.size := by
    have hr2 : o.rows w (css.take i) (xs.take i) (fps.take i) := by
      have : ∀ {css : List (List Value)} {xs : List α} {fps : List (List Nat)} (h : o.rows w css xs fps) (i : Nat), o.rows w (css.take i) (xs.take i) (fps.take i) := by
        intro css
        induction css with
        | nil => intro xs fps h i; match xs, fps, h with
          | [], [], _ => simp [OS.rows]
        | cons c cs ih => intro xs fps h i; match xs, fps, h with
          | y :: ys, p :: ps, h => cases i with
            | zero => simp [OS.rows]
            | succ i => simp only [List.take_succ_cons]; exact ⟨h.1, ih h.2 i⟩
      exact this h2 i
    rw [(o.rows_len hr2).2.2, List.length_take, Nat.min_eq_left (by omega)]
  refine ⟨g, c, f, (css.take i).flatten, (css.drop (i + 1)).flatten ++ cur.toList.drop (xs.length * o.size), t, rfl, by simp [bl, Value.ownBlock], hgf, hlt g (by simp [bl, Value.ownBlock]), hr, hsub.nodup hnl.2.1, fun k hk => List.mem_append_right _ (hmem k hk), hpre, ?_, ?_⟩
  · rw [hg]
    congr 2
    apply Array.ext'
    simp only []
    conv => lhs; rw [← List.take_append_drop (xs.length * o.size) cur.toList, htake, hsplit]
    simp
  · intro w' x' c' hr' hg' hk
    have hcl' := o.len hr'
    have hsp' : css.set i c' = css.take i ++ c' :: css.drop (i + 1) := by
      rw [List.set_eq_take_append_cons_drop, if_pos hic]
    refine ⟨_, css.set i c', fps, rfl, rfl, ?_, ?_⟩
    · refine ⟨?_, .inr ⟨g, cap, _, by rw [List.length_set], hB, hg', by rw [List.length_set]; exact hnc, hcm, ?_, ?_⟩⟩
      · have h9 := h1.1
        rw [hsplit] at h9
        rw [hsp', List.length_set]
        simp only [List.flatten_append, List.flatten_cons, List.length_append] at h9 ⊢
        omega
      · have h9 := h1.1
        rw [hsplit] at h9
        simp only [List.flatten_append, List.flatten_cons, List.length_append] at h9
        have h8 := Nat.mul_le_mul_right o.size hnc
        simp only [List.size_toArray, List.length_append, List.length_drop, Array.length_toList]
        omega
      · have h9 := h1.1
        rw [hsplit] at h9
        simp only [List.flatten_append, List.flatten_cons, List.length_append] at h9
        rw [List.length_set, hsp']
        simp only [List.flatten_append, List.flatten_cons]
        rw [show (css.take i).flatten ++ (c' ++ ((css.drop (i + 1)).flatten ++ cur.toList.drop (xs.length * o.size))) = ((css.take i).flatten ++ (c' ++ (css.drop (i + 1)).flatten)) ++ cur.toList.drop (xs.length * o.size) by simp]
        rw [List.take_append_of_le_length (by simp only [List.length_append]; omega), List.take_of_length_le (by simp only [List.length_append]; omega)]
    · have key : ∀ {css : List (List Value)} {xs : List α} {fps : List (List Nat)} (h : o.rows w css xs fps) (i : Nat), fps[i]? = some f → fps.flatten.Nodup → (∀ k ∈ fps.flatten, k ∉ f → w'.heap[k]? = w.heap[k]?) → o.rows w' (css.set i c') (xs.set i x') fps := by
        intro css
        induction css with
        | nil => intro xs fps h i hf hn hk; match xs, fps, h with
          | [], [], _ => simp at hf
        | cons c cs ih => intro xs fps h i hf hn hk; match xs, fps, h with
          | y :: ys, p :: ps, h =>
            simp only [List.flatten_cons] at hn hk
            have hn' := List.nodup_append.1 hn
            cases i with
            | zero =>
              simp at hf; subst hf
              exact ⟨hr', o.rows_frame h.2 (fun k hm => hk k (List.mem_append_right _ hm) (fun hq => hn'.2.2 k hq k hm rfl))⟩
            | succ i =>
              simp only [List.getElem?_cons_succ] at hf
              have hin : ∀ k ∈ f, k ∈ ps.flatten := fun k hk => List.mem_flatten.2 ⟨f, List.mem_of_getElem? hf, hk⟩
              exact ⟨o.frame h.1 (fun k hm => hk k (List.mem_append_left _ hm) (fun hq => hn'.2.2 k hm k (hin k hq) rfl)), ih h.2 i hf hn'.2.1 (fun k hm hq => hk k (List.mem_append_right _ hm) hq)⟩
      refine key h2 i hf hnl.2.1 (fun k hm hq => hk k (List.mem_append_right _ hm) (fun e => ?_) hq)
      subst e
      exact hnl.2.2 k (by simp [bl, Value.ownBlock]) k hm rfl

theorem oS_len {α : Type} {t : TypeId} {o : OS α} {w : World} {cs : List Value} {xs : List α} {fp : List Nat} (h : (O.slice t o).rep w cs xs fp) : ∃ a cap, cs = [.slice a xs.length cap] := by
  obtain ⟨v, css, fps, rfl, _, h1, _⟩ := h
  obtain ⟨a, cap, rfl, _⟩ := own_form h1
  exact ⟨a, cap, rfl⟩
theorem oS_len1 {α : Type} {t : TypeId} {o : OS α} {w : World} {a : Option Addr} {n cap : Nat} {xs : List α} {fp : List Nat} (h : (O.slice t o).rep w [.slice a n cap] xs fp) : xs.length = n := by
  obtain ⟨a, cap, hv⟩ := oS_len h
  simp at hv
  exact hv.2.1.symm
theorem sumBy_le {α : Type} (f : α → Nat) {xs : List α} {j : Nat} {x : α} (h : xs[j]? = some x) : sumBy f (xs.take j) + f x ≤ sumBy f xs := by
  have h9 : sumBy f xs = sumBy f (xs.take j) + sumBy f (xs.drop j) := by
    conv => lhs; rw [← List.take_append_drop j xs]
    simp only [sumBy, List.map_append, List.sum_append]
  have h8 := sumBy_drop f h
  omega
theorem mdig_len : ∀ (f k : Nat) (out : List UInt8), (mdig f k out).length ≤ f + out.length
  | 0, _, out => by simp [mdig]
  | f + 1, k, out => by
    rw [mdig]; split
    · omega
    · have := mdig_len f (k / 10) (UInt8.ofNat (48 + k % 10) :: out); simp only [List.length_cons] at this; omega
theorem mtext_size (k : Nat) (h : k ≤ 1000000000000) : (mtext k).size ≤ 9223372036854775807 := by
  have h1 := mdig_len 20 k []
  have h2 : (mtext k).size = (mdig 20 k []).length + 1 := rfl
  rw [h2]
  simp at h1
  omega
theorem markText_int (k : Int) (w : World) (h0 : 0 < k) (hk : k ≤ 100000000000) :
    Calls Tryd.prog 62 #[.int .i64 k] w fun e w' => e = .returned (.string (mtext k.toNat)) ∧ Below w.heap.size w w' := by
  obtain ⟨m, rfl⟩ := Int.eq_ofNat_of_zero_le (show 0 ≤ k by omega)
  exact markText_any m w (by omega) (by omega)

theorem sumBy_two {α : Type} {c b : α → Nat} (h : ∀ x, c x ≤ 2 * (1 + b x)) : ∀ (xs : List α), sumBy c xs ≤ 2 * (xs.length + sumBy b xs)
  | [] => by simp [sumBy]
  | x :: t => by
    have h1 := sumBy_two h t
    have h2 := h x
    simp only [sumBy, List.map_cons, List.sum_cons, List.length_cons] at h1 ⊢
    omega
theorem cntSS_le (xss : List (List Int)) : cntSS xss ≤ sumBy bulk_I xss := Nat.le_of_eq rfl
def cnt_II (xss : List (List Int)) : Nat := cntSS xss
def mk_II (k : Int) (xss : List (List Int)) : List (List Int) := mkSS k xss
theorem cnt_le_II (xss : List (List Int)) : cnt_II xss ≤ 2 * bulk_II xss := by
  have := cntSS_le xss
  unfold cnt_II bulk_II; omega

theorem at_cell {w : World} {g p : Nat} {pre c post : List Value} {E : TypeId} (h : w.heap[g]? = some (.cells (pre ++ (c ++ post)).toArray E)) (hp : pre.length = p) {j : Nat} {u : Value} (hu : c[j]? = some u) : w.cell? ⟨g, p + j, none⟩ = some u := by
  have hj := (List.getElem?_eq_some_iff.1 hu).1
  simp only [World.cell?, h]
  simp only [Option.isSome_none, Bool.false_eq_true, if_false]
  rw [List.getElem?_toArray, List.getElem?_append_right (by omega), List.getElem?_append_left (by omega), show p + j - pre.length = j by omega]
  exact hu
theorem at_frozen {w : World} {g : Nat} {cs : Array Value} {E : TypeId} (h : w.heap[g]? = some (.cells cs E)) (i : Nat) : w.frozen? ⟨g, i, none⟩ = false := by simp [World.frozen?, h]
theorem at_set {w : World} {g p : Nat} {pre c post : List Value} {E : TypeId} (h : w.heap[g]? = some (.cells (pre ++ (c ++ post)).toArray E)) (hp : pre.length = p) {j : Nat} (hj : j < c.length) (u : Value) : (w.setCell ⟨g, p + j, none⟩ u).heap[g]? = some (.cells (pre ++ (c.set j u ++ post)).toArray E) := by
  rw [heap_setCell_same w g _ _ E u h]
  congr 2
  apply Array.ext'
  simp only [Array.toList_setIfInBounds]
  rw [List.set_append_right _ _ (by omega), List.set_append_left _ _ (by omega), show p + j - pre.length = j by omega]
end Go.Proofs.YtpgfkjcekhifiaaDoor

/- Contracts: whether an answer is valid. -/
namespace Go.Proofs.YtpgfkjcekhifiaaDoor
open Go.RowKit
set_option linter.unusedVariables false
set_option linter.unusedSimpArgs false
set_option synthInstance.maxSize 2000
set_option synthInstance.maxHeartbeats 400000

/-- Columns: in range, ascending from p. -/
def colsFrom (n p : Int) : List Int → Bool
  | [] => true
  | v :: t => betw v 0 (n - 1) && decide (p < v) && colsFrom n v t
/-- Strictly ascending columns of so many. -/
def colsB (n : Int) (xs : List Int) : Bool := colsFrom n (-1) xs
theorem cols_at {n p : Int} {xs : List Int} {j : Nat} {x : Int} (hj : j < xs.length) (hx : xs.getD j 0 = x) : colsFrom n p (xs.drop j) = (betw x 0 (n - 1) && decide (p < x) && colsFrom n x (xs.drop (j + 1))) := by
  rw [drop_cons xs j hj, hx]; rfl
theorem cols_end {n p : Int} {xs : List Int} {j : Nat} (hj : xs.length ≤ j) : colsFrom n p (xs.drop j) = true := by
  rw [List.drop_eq_nil_of_le hj]; rfl
theorem betw_pos {x n : Int} (h : betw x 0 n = true) : 0 ≤ x := by
  simp only [betw, Bool.and_eq_true, decide_eq_true_eq] at h; omega
/-- What stands before place j. -/
def prevOf (xs : List Int) : Nat → Int
  | 0 => -1
  | j + 1 => xs.getD j 0
/-- Whether an answer is valid. -/
def validAn (a : DAn) : Bool := colsB 4 a.1 && rowsB a.1.length a.2 && ascB a.2

end Go.Proofs.YtpgfkjcekhifiaaDoor

/- Contracts: whether a table is valid. -/
namespace Go.Proofs.YtpgfkjcekhifiaaDoor
open Go.RowKit
set_option linter.unusedVariables false
set_option linter.unusedSimpArgs false
set_option synthInstance.maxSize 2000
set_option synthInstance.maxHeartbeats 400000

/-- Whether a table is valid. -/
def validT (t : DT) : Bool := nameB t.1 && (betw t.2.1 1 3 && (decide (t.2.2.length ≤ 8) && (rowsB t.2.1 t.2.2 && ascB t.2.2)))
theorem validT_rows {t : DT} (h : rowsB t.2.1 t.2.2 = false) : validT t = false := by simp [validT, h]
theorem validT_rest {t : DT} (h : rowsB t.2.1 t.2.2 = true) : validT t = (nameB t.1 && (betw t.2.1 1 3 && (decide (t.2.2.length ≤ 8) && ascB t.2.2))) := by simp [validT, h]

end Go.Proofs.YtpgfkjcekhifiaaDoor

/- Contracts: columns that are strictly ascending columns of a table. -/
namespace Go.Proofs.YtpgfkjcekhifiaaDoor
open Go.RowKit
set_option linter.unusedVariables false
set_option linter.unusedSimpArgs false
set_option synthInstance.maxSize 2000
set_option synthInstance.maxHeartbeats 400000

/-- Columns of a valid table. -/
def colsT (t : DT) (xs : List Int) : Bool := colsB t.2.1 xs && validT t

end Go.Proofs.YtpgfkjcekhifiaaDoor

/- Plain: neighbours that are equal, one of them alone: as the library's CompactFunc goes. -/
namespace Go.Proofs.YtpgfkjcekhifiaaDoor
open Go.RowKit
set_option linter.unusedVariables false
set_option linter.unusedSimpArgs false

/-- Whether place p is kept: the first, or another key than the place before it. -/
def keepAt {α : Type} (key : α → List Int) (d : List α) (p : Nat) : Bool :=
  match d[p]?, d[p - 1]? with
  | some x, some y => decide (p = 0) || !decide (key x = key y)
  | _, _ => true
/-- What is kept of the first p. -/
def dedTo {α : Type} (key : α → List Int) (d : List α) : Nat → List α
  | 0 => []
  | p + 1 => dedTo key d p ++ (if keepAt key d p then d[p]?.toList else [])
theorem dedTo_sub {α : Type} (key : α → List Int) (d : List α) : ∀ p, (dedTo key d p).Sublist (d.take p)
  | 0 => by simp [dedTo]
  | p + 1 => by
    rw [dedTo, List.take_add_one]
    refine (dedTo_sub key d p).append ?_
    split
    · exact List.Sublist.refl _
    · exact List.nil_sublist _
theorem dedTo_len {α : Type} (key : α → List Int) (d : List α) (p : Nat) : (dedTo key d p).length ≤ p := by
  have h1 := (dedTo_sub key d p).length_le
  have h2 := List.length_take_le p d
  omega
theorem dedTo_keep {α : Type} {key : α → List Int} {d : List α} {p : Nat} {x : α} (hx : d[p]? = some x) (h : keepAt key d p = true) : dedTo key d (p + 1) = dedTo key d p ++ [x] := by
  rw [dedTo, h, if_pos rfl, hx]; rfl
theorem dedTo_skip {α : Type} {key : α → List Int} {d : List α} {p : Nat} (h : keepAt key d p = false) : dedTo key d (p + 1) = dedTo key d p := by
  rw [dedTo, h]; simp
theorem keepAt_at {α : Type} {key : α → List Int} {d : List α} {p : Nat} {x y : α} (hx : d[p + 1]? = some x) (hy : d[p]? = some y) : keepAt key d (p + 1) = !decide (key x = key y) := by
  simp [keepAt, hx, hy]
theorem keepAt_zero {α : Type} {key : α → List Int} {d : List α} : keepAt key d 0 = true := by
  unfold keepAt; cases d[0]? <;> simp
theorem dedTo_all {α : Type} {key : α → List Int} {d : List α} : ∀ {p : Nat}, (∀ j, j < p → keepAt key d j = true) → dedTo key d p = d.take p
  | 0, _ => by simp [dedTo]
  | p + 1, h => by
    rw [dedTo, dedTo_all fun j hj => h j (by omega), h p (by omega), if_pos rfl, List.take_add_one]
/-- What CompactFunc's cells hold when p places have been looked at. -/
def dedRow {α : Type} (key : α → List Int) (d : List α) (p : Nat) : List α := dedTo key d p ++ d.drop (dedTo key d p).length
theorem dedRow_len {α : Type} {key : α → List Int} {d : List α} {p : Nat} (hp : p ≤ d.length) : (dedRow key d p).length = d.length := by
  have := dedTo_len key d p
  simp [dedRow]; omega
theorem dedRow_get {α : Type} {key : α → List Int} {d : List α} {p j : Nat} (h : (dedTo key d p).length ≤ j) : (dedRow key d p)[j]? = d[j]? := by
  rw [dedRow, List.getElem?_append_right h, List.getElem?_drop]; congr 1; omega
theorem dedRow_set {α : Type} {key : α → List Int} {d : List α} {p : Nat} {x : α} (hx : d[p]? = some x) (h : keepAt key d p = true) : (dedRow key d p).set (dedTo key d p).length x = dedRow key d (p + 1) := by
  have hp := (List.getElem?_eq_some_iff.1 hx).1
  have hl := dedTo_len key d p
  rw [dedRow, dedRow, dedTo_keep hx h, List.set_append_right _ _ (Nat.le_refl _), Nat.sub_self]
  rw [List.drop_eq_getElem_cons (by omega), List.set_cons_zero]
  simp
/-- Its keys are what 'dedup' leaves of the keys. -/
def lastOf (p : List Int) : List (List Int) → List Int
  | [] => p
  | y :: t => lastOf y t
theorem lastOf_get : ∀ (p : List Int) (l : List (List Int)), (p :: l)[l.length]? = some (lastOf p l)
  | p, [] => rfl
  | p, y :: t => by
    have h := lastOf_get y t
    simpa [lastOf] using h
theorem dedupFrom_snoc : ∀ (p : List Int) (l : List (List Int)) (x : List Int), dedupFrom p (l ++ [x]) = dedupFrom p l ++ (if x = lastOf p l then [] else [x])
  | p, [], x => by
    by_cases e : x = p
    · subst e; simp [dedupFrom, lastOf]
    · simp [dedupFrom, lastOf, e]
  | p, y :: t, x => by
    have ih := dedupFrom_snoc y t x
    by_cases e : y = p
    · subst e
      show dedupFrom y (y :: (t ++ [x])) = dedupFrom y (y :: t) ++ _
      rw [dedupFrom, if_pos rfl, dedupFrom, if_pos rfl, ih]; rfl
    · show dedupFrom p (y :: (t ++ [x])) = dedupFrom p (y :: t) ++ _
      rw [dedupFrom, if_neg e, dedupFrom, if_neg e, ih]; rfl
theorem dedTo_map {α : Type} {key : α → List Int} {d : List α} : ∀ {p : Nat}, p ≤ d.length → (dedTo key d p).map key = dedup ((d.map key).take p)
  | 0, _ => by simp [dedTo, dedup]
  | 1, h => by
    cases d with
    | nil => simp at h
    | cons x t =>
      rw [dedTo_keep (x := x) rfl keepAt_zero]
      simp [dedTo, dedup, dedupFrom]
  | p + 2, h => by
    have h1 : p + 1 < d.length := h
    have h0 : p < d.length := by omega
    have ih := @dedTo_map _ key d (p + 1) (by omega)
    have hx : d[p + 1]? = some d[p + 1] := List.getElem?_eq_getElem h1
    have hy : d[p]? = some d[p] := List.getElem?_eq_getElem h0
    have e : (d.map key).take (p + 2) = (d.map key).take (p + 1) ++ [key d[p + 1]] := by
      rw [List.take_add_one (i := p + 1)]; simp [hx]
    obtain ⟨a, t, hat⟩ : ∃ a t, (d.map key).take (p + 1) = a :: t := by
      cases h9 : (d.map key).take (p + 1) with
      | nil =>
        have h8 := congrArg List.length h9
        rw [List.length_take, List.length_map, List.length_nil] at h8
        omega
      | cons a t => exact ⟨a, t, rfl⟩
    have hlen : t.length = p := by
      have := congrArg List.length hat; simp at this; omega
    have hlast : lastOf a t = key d[p] := by
      have h9 := lastOf_get a t
      rw [← hat, hlen, List.getElem?_take_of_lt (by omega), List.getElem?_map, hy] at h9
      exact (Option.some.inj h9).symm
    rw [e, hat]
    show _ = a :: dedupFrom a (t ++ [key d[p + 1]])
    rw [dedupFrom_snoc, hlast]
    rw [hat] at ih
    have ih' : (dedTo key d (p + 1)).map key = a :: dedupFrom a t := ih
    by_cases hk : key d[p + 1] = key d[p]
    · rw [dedTo_skip (by rw [keepAt_at hx hy, hk]; simp), ih', if_pos hk, List.append_nil]
    · rw [dedTo_keep hx (by rw [keepAt_at hx hy]; simp [hk]), List.map_append, ih', if_neg hk]; rfl

end Go.Proofs.YtpgfkjcekhifiaaDoor

/- Contracts: slices and data compared (slices.Equal, slices.EqualFunc). -/
namespace Go.Proofs.YtpgfkjcekhifiaaDoor
open Go.RowKit
set_option linter.unusedVariables false
set_option linter.unusedSimpArgs false

set_option maxHeartbeats 400000 in
theorem equalInts (a b : Option Addr) (n m cap cap' : Nat) (xs ys : List Int) (w : World) (h : Ints w a n xs) (h' : Ints w b m ys) :
    Calls Tryd.prog 72 #[.slice a n cap, .slice b m cap'] w fun e w' => e = .returned (.bool (decide (xs = ys))) ∧ Drew w w' := by
  have hl := h.len
  have hl' := h'.len
  have hn := h.small
  have hn' := h'.small
  by_cases hnm : n = m
  · subst hnm
    go_enter Tryd.func72, Tryd.ntmps72
    go_wp2
    go_loopw [5, 13] (fun _ k wr => ∃ j : Nat, j ≤ n ∧ k = .int .i64 j ∧ Hid (xs.take j = ys.take j) ∧ Drew w wr) (fun _ k _ => n - (intOf k).toNat)
    case atStart => exact ⟨0, Nat.zero_le _, rfl, rfl, Drew.refl _⟩
    case round =>
      obtain ⟨j, hj, rfl, hE, hdr⟩ := hrel
      replace h := h.drew hdr
      replace h' := h'.drew hdr
      by_cases hlt : j < n
      · obtain ⟨b1, o1, x, rfl, hc, hx, _, _⟩ := h.get hlt
        obtain ⟨b2, o2, y, rfl, hc', hy, _, _⟩ := h'.get hlt
        by_cases hxy : x = y
        · have HE := Lib.hid (take_same (by omega) (by omega) hE.out (by rw [hx.out, hy.out, hxy]))
          have hne : (x != y) = false := by simp [hxy]
          clear h h' hl hl' hxy
          go_wp2
          go_quiet (fail)
          go_wp2
          go_roundw
          case rel => exact ⟨j + 1, by omega, by go_num, HE, hdr.step _⟩
          case measure => simp [intOf]; omega
        · have HE := Lib.hid (show decide (xs = ys) = false by
            simp only [decide_eq_false_iff_not]; intro e; subst e; exact hxy (hx.out.symm.trans hy.out))
          have hne : (x != y) = true := by simp [hxy]
          clear h h' hl hl' hxy
          go_wp2
          go_quiet (fail)
          go_wp2
          go_ret
          exact ⟨ret_bool HE.out.symm, hdr.step _⟩
      · have HE := Lib.hid (show decide (xs = ys) = true by
          have e := hE.out
          rw [List.take_of_length_le (by omega), List.take_of_length_le (by omega)] at e
          simp [e])
        clear h h' hl hl'
        go_wp2
        go_ret
        exact ⟨ret_bool HE.out.symm, hdr⟩
  · have HE := Lib.hid (show decide (xs = ys) = false by
      simp only [decide_eq_false_iff_not]; intro e; subst e; omega)
    have hne : ((n : Int) != (m : Int)) = true := by rw [bne_iff_ne]; omega
    clear hl hl' h h'
    go_enter Tryd.func72, Tryd.ntmps72
    go_wp2
    go_ret
    exact ⟨ret_bool HE.out.symm, Drew.refl _⟩

end Go.Proofs.YtpgfkjcekhifiaaDoor

/- Kind Db: shape, size, copy, comparison. Written by a program. -/
namespace Go.Proofs.YtpgfkjcekhifiaaDoor
open Go.RowKit
set_option linter.unusedVariables false
set_option linter.unusedSimpArgs false
set_option synthInstance.maxSize 2000
set_option synthInstance.maxHeartbeats 400000

abbrev DDb := List DT

def rDb : RS DDb := rTl

theorem rDb_open {w : World} {cs : List Value} {x : DDb} (h : rDb.rep w cs x) : ∃ ub0 un0 uc0, cs = [.slice ub0 un0 uc0] ∧ rTl.rep w [.slice ub0 un0 uc0] x := by
  have hr0 := h
  obtain ⟨ub0, un0, uc0, rfl⟩ := rTl_form hr0
  exact ⟨_, _, _, rfl, hr0⟩

theorem rDb_form {w : World} {cs : List Value} {x : DDb} (h : rDb.rep w cs x) : ∃ ub0 un0 uc0, cs = [.slice ub0 un0 uc0] := by
  obtain ⟨ub0, un0, uc0, h1, _⟩ := rDb_open h
  exact ⟨_, _, _, h1⟩

theorem rDb_mk {w : World} {ub0 : Option Addr} {un0 uc0 : Nat} {x : DDb} (h0 : rTl.rep w [.slice ub0 un0 uc0] x) : rDb.rep w [.slice ub0 un0 uc0] x :=
  h0

def bulk_Db (x : DDb) : Nat := bulk_Tl x

end Go.Proofs.YtpgfkjcekhifiaaDoor

/- Marks of slices of atoms. Written by a program. -/
namespace Go.Proofs.YtpgfkjcekhifiaaDoor
open Go.RowKit
set_option linter.unusedVariables false
set_option linter.unusedSimpArgs false
set_option synthInstance.maxSize 2000
set_option synthInstance.maxHeartbeats 400000

def cntE_A (x : DA) : Nat := 1 + x.2.length
def mkE_A (k : Int) (x : DA) : DA := (mtext k.toNat, marks (k + 1) x.2.length)

def cnt_As (xs : List DA) : Nat := sumBy cntE_A xs
def mk_As (k : Int) (xs : List DA) : List DA := mkL mkE_A cntE_A k xs

set_option maxHeartbeats 2000000 in
theorem markR_As (a : Option Addr) (n cap : Nat) (xs : List DA) (fp : List Nat) (k : Int) (w : World) (h : oAs.rep w [.slice a n cap] xs fp) (hfp : fp.Nodup)
    (k0 : 1 ≤ k) (k1 : k + cnt_As xs ≤ 1000000000) (hb : bulk_As xs ≤ 100000000) :
    Calls Tryd.prog 32 #[.slice a n cap, .int .i64 k] w fun e w' => e = .returned (.int .i64 (k + cnt_As xs)) ∧ oAs.rep w' [.slice a n cap] (mk_As k xs) fp ∧ Alt fp w w' := by
  have hl : xs.length = n := oS_len1 h
  have hsm : n ≤ 100000000 := by unfold bulk_As at hb; omega
  have hbs : sumBy bulk_A xs ≤ 100000000 := by unfold bulk_As at hb; omega
  clear hb
  unfold cnt_As at *
  go_enter Tryd.func32, Tryd.ntmps32
  go_wp2
  go_loopw [1, 5] (fun q i wr => ∃ j : Nat, j ≤ n ∧ i = .int .i64 j ∧ q = .int .i64 (k + sumBy cntE_A (xs.take j)) ∧ Hid (oAs.rep wr [.slice a n cap] (mkLTo mkE_A cntE_A k xs j) fp) ∧ Alt fp w wr)
    (fun _ i _ => n - (intOf i).toNat)
  case atStart => exact ⟨0, Nat.zero_le _, rfl, by simp [sumBy], Lib.hid (by rw [mkLTo_zero]; exact h), Alt.refl _ _⟩
  case round =>
    obtain ⟨j, hj, rfl, rfl, hown, hk⟩ := hrel
    clear h
    by_cases hlt : j < n
    · obtain ⟨r, hr⟩ : ∃ r, xs[j]? = some r := ⟨_, List.getElem?_eq_getElem (by omega)⟩
      have HLT := Lib.hid (oAs.lt hown.out)
      obtain ⟨g, c, f, pre, post, E, rfl, hgm, hgf, hgl, hrep, hfn, hfs, hpre, hg, hset⟩ := slice_at hown.out hfp (mkLTo_get mkE_A cntE_A k xs j r hr)
      obtain ⟨c0, d0, p0, q0, rfl, rfl, ⟨rfl, hs0, rfl⟩, t1⟩ := hrep
      obtain ⟨a1, n1, rfl⟩ := oS_len t1
      have hgf1 : g ∉ q0 := fun h9 => hgf (by simp [h9])
      simp only [List.nodup_append, List.nil_append, List.append_nil] at hfn
      have hn1 : q0.Nodup := by first | exact hfn | exact hfn.1 | exact hfn.2.1 | exact hfn.2.1.1 | exact hfn.2.1.2.1
      replace hpre : pre.length = j * 2 := hpre
      obtain ⟨q, hq⟩ : ∃ q : Nat, q = sumBy cntE_A (xs.take j) := ⟨_, rfl⟩
      have hq2 := sumBy_take cntE_A hr
      have hle2 := sumBy_le cntE_A hr
      have hcnt : cntE_A r = 1 + r.2.length := rfl
      rw [← hq] at hle2 hq2 ⊢
      rw [hcnt] at hle2 hq2
      have HQ := Lib.hid hq
      have HQ2 := Lib.hid hq2
      have HR := Lib.hid hr
      have HS := Lib.hid hset
      have HP := Lib.hid hpre
      have HL := Lib.hid hl
      have HF := Lib.hid hgf
      replace hg : wr.heap[g]? = some (.cells (pre ++ ([Value.string r.1, Value.slice a1 r.2.length n1] ++ post)).toArray E) := hg
      have HK := Lib.hid hk
      clear hset hown hl hr hq hq2 hcnt hpre hgf hfn hk
      have A0 := Alt.refl (g :: ([] ++ q0)) wr
      have u0_0 : wr.cell? ⟨g, j * 2, none⟩ = some (Value.string r.1) := at_cell hg HP.out (j := 0) rfl
      have u0_1 : wr.cell? ⟨g, j * 2 + 1, none⟩ = some (Value.slice a1 r.2.length n1) := at_cell hg HP.out (j := 1) rfl
      have uf0 := fun i => at_frozen hg i
      have uz0_0 := uf0 (j * 2)
      have uz0_1 := uf0 (j * 2 + 1)
      clear uf0
      go_wp2_with fail
      clear u0_0 u0_1 uz0_0 uz0_1
      refine (markText_int _ _ (by omega) (by omega)).mono ?_
      rintro e w1 ⟨rfl, z1⟩
      have hg1 := (z1.block g (Array.getElem?_eq_some_iff.1 hg).1).trans hg
      have A1 := A0.trans (Alt.below z1)
      replace t1 := oI.frame t1 (fun p9 hp9 => z1.block p9 (oI.lt t1 p9 hp9))
      clear z1
      have u1_0 : w1.cell? ⟨g, j * 2, none⟩ = some (Value.string r.1) := at_cell hg1 HP.out (j := 0) rfl
      have u1_1 : w1.cell? ⟨g, j * 2 + 1, none⟩ = some (Value.slice a1 r.2.length n1) := at_cell hg1 HP.out (j := 1) rfl
      have uf1 := fun i => at_frozen hg1 i
      have uz1_0 := uf1 (j * 2)
      have uz1_1 := uf1 (j * 2 + 1)
      clear uf1
      go_wp2_with fail
      obtain ⟨w2, hw2⟩ : ∃ W, W = w1.setCell ⟨g, j * 2, none⟩ (Value.string (mtext (k + (q : Int)).toNat)) := ⟨_, rfl⟩
      rw [← hw2]
      have hg2 : w2.heap[g]? = some (.cells (pre ++ ([Value.string (mtext (k + (q : Int)).toNat), Value.slice a1 r.2.length n1] ++ post)).toArray E) := by rw [hw2]; exact at_set hg1 HP.out (j := 0) (by simp) _
      have A2 : Alt _ wr w2 := A1.trans (by rw [hw2]; exact Alt.set (by simp) _)
      replace t1 := oI.frame (w' := w2) t1 (fun p9 hp9 => by rw [hw2]; exact Below.heap_setCell _ _ _ _ (fun e => hgf1 ((show p9 = g from e) ▸ hp9)))
      clear u1_0 u1_1 uz1_0 uz1_1 hw2
      refine (markI a1 r.2.length n1 r.2 q0 _ _ t1 (by omega) (by omega) (by omega)).mono ?_
      rintro e w3 ⟨rfl, t1, z3⟩
      have hg3 := (z3.block g hgf1).trans hg2
      have A3 := A2.trans ((Alt.only z3).mono (by simp <;> (intros; simp [*])))
      clear z3
      have u3_0 : w3.cell? ⟨g, j * 2, none⟩ = some (Value.string (mtext (k + (q : Int)).toNat)) := at_cell hg3 HP.out (j := 0) rfl
      have u3_1 : w3.cell? ⟨g, j * 2 + 1, none⟩ = some (Value.slice a1 r.2.length n1) := at_cell hg3 HP.out (j := 1) rfl
      have uf3 := fun i => at_frozen hg3 i
      have uz3_0 := uf3 (j * 2)
      have uz3_1 := uf3 (j * 2 + 1)
      clear uf3
      go_wp2_with fail
      have HO : Hid (oAs.rep w3 [.slice (some ⟨g, 0, none⟩) n cap] (mkLTo mkE_A cntE_A k xs (j + 1)) fp) := by
        have h7 := HS.out w3 (mkE_A (k + (q : Int)) r) [Value.string (mtext (k + (q : Int)).toNat), Value.slice a1 r.2.length n1] ⟨[Value.string (mtext (k + (q : Int)).toNat)], [Value.slice a1 r.2.length n1], [], _, rfl, rfl, ⟨rfl, mtext_size _ (by omega), rfl⟩, t1⟩ hg3 (fun k h8 h9 h10 => A3.block k (HLT.out k h8) (by simp only [List.mem_cons, not_or]; exact ⟨h9, h10⟩))
        rw [HQ.out, mkLTo_step mkE_A cntE_A k xs j r HR.out] at h7
        exact h7
      have hk2 := HK.out.trans (A3.mono (fun k h8 => by
        rcases List.mem_cons.1 h8 with h9 | h9
        · exact h9 ▸ hgm
        · exact hfs k h9))
      clear u3_0 u3_1 uz3_0 uz3_1
      clear t1
      go_roundw
      case rel => exact ⟨j + 1, by omega, by go_num, by rw [HQ2.out]; go_num, HO, hk2⟩
      case measure => simp [intOf]; omega
    · obtain rfl : j = n := by omega
      have HO := hown.out
      rw [mkLTo_all mkE_A cntE_A k xs hl] at HO
      have HO' := Lib.hid HO
      have he : (xs.take j) = xs := List.take_of_length_le (by omega)
      rw [he]
      clear HO hown hl he
      go_wp2
      go_ret
      exact ⟨rfl, HO'.out, hk⟩

theorem mark_As (u : Value) (xs : List DA) (k : Int) (lo hi : Nat) (w : World) (h : Own oAs lo hi w [u] xs) (hh : hi ≤ w.heap.size) (k0 : 1 ≤ k) (k1 : k + cnt_As xs ≤ 1000000000) (hb : bulk_As xs ≤ 100000000) :
    Calls Tryd.prog 32 #[u, .int .i64 k] w fun e w' => e = .returned (.int .i64 (k + cnt_As xs)) ∧ Own oAs lo hi w' [u] (mk_As k xs) ∧ Turn lo hi w w' := by
  obtain ⟨fp, h1, h2, h3⟩ := h
  obtain ⟨a, cap, hv⟩ := oS_len h1
  simp at hv
  subst hv
  exact (markR_As a _ cap xs fp k w h1 h2 k0 k1 hb).mono fun e w' ⟨he, h4, h5⟩ => ⟨he, ⟨fp, h4, h2, h3⟩, h5.turn h3⟩

theorem cnt_le_As (xs : List DA) : cnt_As xs ≤ 2 * bulk_As xs :=
  sumBy_two (fun x => by simp only [cntE_A, bulk_A, bulk_I, Nat.add_zero]; omega) xs

end Go.Proofs.YtpgfkjcekhifiaaDoor

/- Marks of slices of slices of ints, as contracts. -/
namespace Go.Proofs.YtpgfkjcekhifiaaDoor
open Go.RowKit
set_option linter.unusedVariables false
set_option linter.unusedSimpArgs false
set_option synthInstance.maxSize 2000
set_option synthInstance.maxHeartbeats 400000

end Go.Proofs.YtpgfkjcekhifiaaDoor

/- The first int of the first atom of atoms of one's own. -/
namespace Go.Proofs.YtpgfkjcekhifiaaDoor
open Go.RowKit
set_option linter.unusedVariables false
set_option linter.unusedSimpArgs false

theorem oSl_len2 {α : Type} {t : TypeId} {o : OS α} {w : World} {cs : List Value} {xs : List α} {fp : List Nat} (h : (O.slice t o).rep w cs xs fp) : ∃ a cap, cs = [.slice a xs.length cap] := by
  obtain ⟨v, css, fps, rfl, rfl, h1, _⟩ := h
  obtain ⟨a, cap, rfl, _⟩ := own_form h1
  exact ⟨a, cap, rfl⟩
theorem own_head {lo hi : Nat} {w : World} {b : Option Addr} {n c : Nat} {ys : List DA} (h : Own oAs lo hi w [.slice b n c] ys) {x : DA} (hx : ys[0]? = some x) (hv : 1 ≤ x.2.length) :
    ∃ g g2 m, b = some ⟨g, 0, none⟩ ∧ (lo ≤ g ∧ g < hi ∧ g < w.heap.size) ∧ (lo ≤ g2 ∧ g2 < hi ∧ g2 < w.heap.size) ∧ g2 ≠ g ∧ w.cell? ⟨g, 1, none⟩ = some (.slice (some ⟨g2, 0, none⟩) x.2.length m) ∧ w.frozen? ⟨g, 1, none⟩ = false ∧ (∃ v, w.cell? ⟨g2, 0, none⟩ = some (.int .i64 v)) ∧ w.frozen? ⟨g2, 0, none⟩ = false ∧
      ∀ (w' : World) (z : Int), I64 z → (∀ k, lo ≤ k → k < hi → w'.heap[k]? = w.heap[k]?) → Own oAs lo hi (w'.setCell ⟨g2, 0, none⟩ (.int .i64 z)) [.slice b n c] (ys.set 0 (x.1, x.2.set 0 z)) := by
  obtain ⟨fp, hr, hn, hb⟩ := h
  obtain ⟨g, cc, f, pre, post, E, rfl, g1, g2, g3, hrep, hfn, hsub, hpre, hgc, hput⟩ := slice_at hr hn hx
  obtain ⟨d0, d1, p0, q1, rfl, rfl, ⟨rfl, hs0, rfl⟩, t2⟩ := hrep
  obtain ⟨a2, m2, rfl⟩ := oSl_len2 t2
  obtain ⟨v, hvx⟩ : ∃ v, x.2[0]? = some v := ⟨_, List.getElem?_eq_getElem (by omega)⟩
  obtain ⟨k, c2, f2, pre2, post2, E2, rfl, k1, k2, k3, hrep2, hfn2, hsub2, hpre2, hkc, hput2⟩ := slice_at t2 (by simpa using hfn) hvx
  obtain ⟨rfl, hI, rfl⟩ := hrep2
  replace hpre : pre.length = 0 := by simpa using hpre
  replace hpre2 : pre2.length = 0 := by simpa using hpre2
  have hgr := hb g g1
  have hkf : k ∈ fp := hsub k (by simpa using k1)
  have hkr := hb k hkf
  have hkg : k ≠ g := fun e => g2 (by subst e; simpa using k1)
  have hgc2 : w.heap[g]? = some (.cells (pre ++ ([Value.string x.1, Value.slice (some ⟨k, 0, none⟩) x.2.length m2] ++ post)).toArray E) := hgc
  refine ⟨g, k, m2, rfl, ⟨hgr.1, hgr.2, g3⟩, ⟨hkr.1, hkr.2, k3⟩, hkg, at_cell hgc2 hpre (j := 1) rfl, at_frozen hgc2 1, ⟨v, at_cell hkc hpre2 (j := 0) rfl⟩, at_frozen hkc 0, fun w' z hz hsame => ?_⟩
  have hk' := hsame k hkr.1 hkr.2
  have hg' := hsame g hgr.1 hgr.2
  have hset : (w'.setCell ⟨k, 0, none⟩ (.int .i64 z)).heap[k]? = some (.cells (pre2 ++ ([Value.int .i64 z] ++ post2)).toArray E2) := at_set (w := w') (c := [.int .i64 v]) (hk'.trans hkc) hpre2 (j := 0) (Nat.zero_lt_succ _) (.int .i64 z)
  have hoth : ∀ i, lo ≤ i → i < hi → i ≠ k → (w'.setCell ⟨k, 0, none⟩ (.int .i64 z)).heap[i]? = w.heap[i]? := fun i h1 h2 h3 => (Below.heap_setCell _ _ _ _ h3).trans (hsame i h1 h2)
  have hin := hput2 (w'.setCell ⟨k, 0, none⟩ (.int .i64 z)) z [.int .i64 z] ⟨rfl, hz, rfl⟩ hset (fun i hi1 hi2 _ => by
    have h9 := hb i (hsub i (by simpa using hi1))
    exact hoth i h9.1 h9.2 hi2)
  refine ⟨fp, hput (w'.setCell ⟨k, 0, none⟩ (.int .i64 z)) (x.1, x.2.set 0 z) [Value.string x.1, Value.slice (some ⟨k, 0, none⟩) x.2.length m2] ⟨[.string x.1], [.slice (some ⟨k, 0, none⟩) x.2.length m2], [], q1, rfl, rfl, ⟨rfl, hs0, rfl⟩, hin⟩ ((hoth g hgr.1 hgr.2 (Ne.symm hkg)).trans hgc2) (fun i hi1 hi2 hi3 => ?_), hn, hb⟩
  have h9 := hb i hi1
  exact hoth i h9.1 h9.2 (fun e => hi3 (by subst e; simpa using k1))

end Go.Proofs.YtpgfkjcekhifiaaDoor

/- Contracts: columns selected from a row. -/
namespace Go.Proofs.YtpgfkjcekhifiaaDoor
open Go.RowKit
set_option linter.unusedVariables false
set_option linter.unusedSimpArgs false
set_option synthInstance.maxSize 2000
set_option synthInstance.maxHeartbeats 400000

/-- Whether columns are columns of a row. -/
def selOk (row cols : List Int) : Bool := cols.all (fun c => betw c 0 ((row.length : Int) - 1))
/-- The values of a row at columns. -/
def selAt (row cols : List Int) : List Int := cols.map (fun c => row.getD c.toNat 0)
def sel (row cols : List Int) : List Int := if selOk row cols then selAt row cols else []
theorem selAt_len (row cols : List Int) : (selAt row cols).length = cols.length := by simp [selAt]
theorem sel_len (row cols : List Int) : (sel row cols).length ≤ cols.length := by
  unfold sel; split <;> simp [selAt]
theorem selAt_step {row cols : List Int} {j : Nat} {c : Nat} {x : Int} (hj : j < cols.length) (hc : cols.getD j 0 = (c : Int)) (hx : row.getD c 0 = x) : selAt row (cols.take (j + 1)) = selAt row (cols.take j) ++ [x] := by
  rw [take_snoc cols j hj, hc]; simp only [selAt, List.map_append, List.map_cons, List.map_nil, Int.toNat_natCast, hx]
theorem selOk_no {row cols : List Int} {j : Nat} {x : Int} (hj : j < cols.length) (hc : cols.getD j 0 = x) (hb : betw x 0 ((row.length : Int) - 1) = false) : selOk row cols = false := by
  rw [selOk, List.all_eq_false]
  refine ⟨x, ?_, by rw [hb]; simp⟩
  rw [← hc, List.getD_eq_getElem?_getD, List.getElem?_eq_getElem hj]
  exact List.getElem_mem hj
theorem selOk_at {row cols : List Int} {j : Nat} {x : Int} (hj : j < cols.length) (hc : cols.getD j 0 = x) : selOk row (cols.drop j) = (betw x 0 ((row.length : Int) - 1) && selOk row (cols.drop (j + 1))) := by
  rw [drop_cons cols j hj, hc]; rfl
theorem selOk_end {row cols : List Int} {j : Nat} (hj : cols.length ≤ j) : selOk row (cols.drop j) = true := by
  rw [List.drop_eq_nil_of_le hj]; rfl
theorem I64.nat {x : Int} (h : betw x 0 9223372036854775806 = true) : ∃ c : Nat, x = (c : Int) := by
  refine ⟨x.toNat, ?_⟩
  simp only [betw, Bool.and_eq_true, decide_eq_true_eq] at h; omega
theorem betw_nat {x m : Int} (h : betw x 0 m = true) : ∃ c : Nat, x = (c : Int) ∧ (c : Int) ≤ m := by
  simp only [betw, Bool.and_eq_true, decide_eq_true_eq] at h
  exact ⟨x.toNat, by omega, by omega⟩


end Go.Proofs.YtpgfkjcekhifiaaDoor

/- Contracts: whether an answer is valid, by the reference. -/
namespace Go.Proofs.YtpgfkjcekhifiaaDoor
open Go.RowKit
set_option linter.unusedVariables false
set_option linter.unusedSimpArgs false
set_option synthInstance.maxSize 2000
set_option synthInstance.maxHeartbeats 400000

end Go.Proofs.YtpgfkjcekhifiaaDoor

/- Contracts: whether a query is valid. -/
namespace Go.Proofs.YtpgfkjcekhifiaaDoor
open Go.RowKit
set_option linter.unusedVariables false
set_option linter.unusedSimpArgs false

/-- Variables as bits, laid over some. -/
def vbits (m : Nat) : List Int → Nat
  | [] => m
  | v :: t => vbits (m ||| 2 ^ v.toNat) t
def varsFrom (n : Int) (pre : List Int) : List Int → Bool
  | [] => true
  | v :: t => betw v 0 (n - 1) && !has pre v && varsFrom n (pre ++ [v]) t
def validFrom (n m : Nat) : List DA → Bool
  | [] => decide (m = 2 ^ n - 1)
  | a :: t => nameB a.1 && betw a.2.length 1 3 && (varsFrom n [] a.2 && validFrom n (vbits m a.2) t)
/-- Whether a query is valid. -/
def validQ (q : DQ) : Bool := betw q.1 1 4 && betw q.2.length 1 4 && validFrom q.1.toNat 0 q.2

theorem validQ_no1 {q : DQ} (h : betw q.1 1 4 = false) : validQ q = false := by simp [validQ, h]
theorem validQ_no2 {q : DQ} (h : betw q.2.length 1 4 = false) : validQ q = false := by simp [validQ, h]
theorem validQ_go {n : Nat} {xs : List DA} (h : betw (n : Int) 1 4 = true) (h' : betw xs.length 1 4 = true) : validQ ((n : Int), xs) = validFrom n 0 (xs.drop 0) := by simp [validQ, h, h']
theorem validFrom_at {n m j : Nat} {xs : List DA} {a : DA} (h : xs[j]? = some a) : validFrom n m (xs.drop j) = (nameB a.1 && betw a.2.length 1 3 && (varsFrom n (a.2.take 0) (a.2.drop 0) && validFrom n (vbits m (a.2.drop 0)) (xs.drop (j + 1)))) := by
  obtain ⟨h1, rfl⟩ := List.getElem?_eq_some_iff.1 h
  rw [List.drop_eq_getElem_cons h1]; simp [validFrom]
theorem validFrom_end {n m j : Nat} {xs : List DA} (h : xs.length ≤ j) : validFrom n m (xs.drop j) = decide (m = 2 ^ n - 1) := by
  rw [List.drop_eq_nil_of_le h]; rfl
theorem vars_no {n : Int} {k : Nat} {v : Int} {vs : List Int} (hk : k < vs.length) (hv : vs.getD k 0 = v) (h : (betw v 0 (n - 1) && !has (vs.take k) v) = false) : varsFrom n (vs.take k) (vs.drop k) = false := by
  rw [drop_cons vs k hk, hv, varsFrom, h]; rfl
theorem vars_yes {n : Int} {k : Nat} {v : Int} {vs : List Int} (hk : k < vs.length) (hv : vs.getD k 0 = v) (h : betw v 0 (n - 1) = true) (h' : has (vs.take k) v = false) : varsFrom n (vs.take k) (vs.drop k) = varsFrom n (vs.take (k + 1)) (vs.drop (k + 1)) := by
  rw [drop_cons vs k hk, hv, varsFrom, h, h', take_snoc vs k hk, hv]; simp
theorem vbits_at {m k : Nat} {v : Nat} {vs : List Int} (hk : k < vs.length) (hv : vs.getD k 0 = (v : Int)) : vbits m (vs.drop k) = vbits (m ||| 2 ^ v) (vs.drop (k + 1)) := by
  rw [drop_cons vs k hk, hv, vbits]; simp
theorem vars_end {n : Int} {k : Nat} {vs : List Int} (hk : vs.length ≤ k) : varsFrom n (vs.take k) (vs.drop k) = true := by
  rw [List.drop_eq_nil_of_le hk]; rfl
theorem vbits_end {m k : Nat} {vs : List Int} (hk : vs.length ≤ k) : vbits m (vs.drop k) = m := by
  rw [List.drop_eq_nil_of_le hk]; rfl
theorem or_lt {m v n : Nat} (h : m < 2 ^ n) (hv : v < n) : m ||| 2 ^ v < 2 ^ n := Nat.or_lt_two_pow h (Nat.pow_lt_pow_right (by omega) hv)
theorem pow_le16 {n : Nat} (h : n ≤ 4) : 2 ^ n ≤ 16 := by
  have := Nat.pow_le_pow_right (show 0 < 2 by omega) h
  omega
theorem Ints.takeTo {w : World} {a : Option Addr} {n : Nat} {xs : List Int} (h : Ints w a n xs) {k : Nat} (hk : k ≤ n) : Ints w a k (xs.take k) := by
  have hl := h.len
  refine ⟨by simp; omega, by have := h.small; omega, fun i hi => ?_, fun x hx => h.rng x (List.mem_of_mem_take hx)⟩
  obtain ⟨b, off, ha, hc⟩ := h.cell i (by omega)
  refine ⟨b, off, ha, ?_⟩
  rw [hc]
  congr 2
  simp [List.getD_eq_getElem?_getD, hi]

/-- Block g holds n bools: the bits of m. -/
structure Bools (w : World) (g n m : Nat) : Prop where
  blk : ∃ E, w.heap[g]? = some (.cells ((List.range n).map (fun i => Value.bool (m.testBit i))).toArray E)
theorem Bools.below {w w' : World} {g n m C : Nat} (h : Bools w g n m) (hb : Below C w w') (hC : g < C) : Bools w' g n m := by
  obtain ⟨E, h⟩ := h.blk
  exact ⟨E, by rw [hb.block g hC]; exact h⟩
theorem Bools.cell {w : World} {g n m : Nat} (h : Bools w g n m) {i : Nat} (hi : i < n) : w.cell? ⟨g, i, none⟩ = some (.bool (m.testBit i)) := by
  obtain ⟨E, h⟩ := h.blk
  simp [World.cell?, h, hi]
theorem Bools.frozen {w : World} {g n m : Nat} (h : Bools w g n m) (i : Nat) : w.frozen? ⟨g, i, none⟩ = false := by
  obtain ⟨E, h⟩ := h.blk
  simp [World.frozen?, h]
theorem Bools.lt {w : World} {g n m : Nat} (h : Bools w g n m) : g < w.heap.size := by
  obtain ⟨E, h⟩ := h.blk
  exact (Array.getElem?_eq_some_iff.1 h).1
theorem Bools.set {w : World} {g n m : Nat} (h : Bools w g n m) {v : Nat} (hv : v < n) : Bools (w.setCell ⟨g, v, none⟩ (.bool true)) g n (m ||| 2 ^ v) := by
  obtain ⟨E, h⟩ := h.blk
  refine ⟨E, ?_⟩
  rw [heap_setCell_same w g v _ E _ h]
  congr 2
  apply Array.ext'
  simp only [Array.toList_setIfInBounds]
  apply List.ext_getElem?
  intro i
  rw [List.getElem?_set]
  by_cases hi : i < n
  · by_cases hiv : v = i
    · subst hiv; simp [hi, Nat.testBit_or, Nat.testBit_two_pow_self]
    · simp [hi, hiv, Nat.testBit_or, Nat.testBit_two_pow_of_ne hiv]
  · have : v ≠ i := by omega
    simp [hi, this]
theorem Bools.of_part {B : Nat} {w : World} {g n : Nat} {xs : List Bool} {E : TypeId} (h : Part E O.bool [.bool false] B w g n 0 xs) : Bools w g n 0 := by
  obtain ⟨css, fps, h1, h2, _⟩ := h
  have : css = [] := by
    have := (O.bool.rows_len h2).1
    simpa using this
  subst this
  refine ⟨E, ?_⟩
  rw [h1]
  congr 2
  simp only [List.flatten_nil, List.nil_append, Nat.sub_zero]
  congr 1
  apply List.ext_getElem?
  intro i
  have := rep_flat [Value.bool false] (by simp) n i
  rw [this]
  by_cases hi : i < n <;> simp [hi, Nat.mod_one]

theorem Turn.setCell {lo hi : Nat} {a w : World} (h : Turn lo hi a w) {p : Addr} (h1 : lo ≤ p.block) (h2 : p.block < hi) (u : Value) : Turn lo hi a (w.setCell p u) :=
  h.trans ((Kept.refl lo hi w).setCell h1 h2 u).turn

theorem wrap_pow {n : Nat} (h : n ≤ 16) : wrap64 ((2 : Int) ^ n) = ((2 ^ n : Nat) : Int) := by
  have h1 := Nat.pow_le_pow_right (show 0 < 2 by omega) h
  have h2 : ((2 : Int) ^ n) = ((2 ^ n : Nat) : Int) := by simp
  rw [h2]
  generalize 2 ^ n = p at h1
  exact IntWalk.wrap64_in _ ⟨by omega, by omega⟩
theorem or_pow {m v : Nat} (hm : m < 65536) (hv : v ≤ 16) : bits .or .i64 (m : Int) (wrap64 ((2 : Int) ^ v)) = ((m ||| 2 ^ v : Nat) : Int) := by
  have h1 := Nat.pow_le_pow_right (show 0 < 2 by omega) hv
  rw [wrap_pow hv]
  generalize 2 ^ v = p at h1
  exact bits_or_nat _ _ (by omega) (by omega)
theorem full_eq {m n : Nat} (hn : n ≤ 16) : ((m : Int) == wrap64 (wrap64 ((2 : Int) ^ n) - 1)) = decide (m = 2 ^ n - 1) := by
  have h1 := Nat.pow_le_pow_right (show 0 < 2 by omega) hn
  have h2 := Nat.two_pow_pos n
  rw [wrap_pow hn]
  generalize 2 ^ n = p at h1 h2
  rw [IntWalk.wrap64_in _ ⟨by omega, by omega⟩, Bool.eq_iff_iff]
  simp only [beq_iff_eq, decide_eq_true_eq]
  omega

set_option maxHeartbeats 400000 in
theorem indexBools (g n m cap : Nat) (w : World) (h : Bools w g n m) (hn : n ≤ 4) (hm : m < 2 ^ n) :
    Calls Tryd.prog 74 #[.slice (some ⟨g, 0, none⟩) n cap, .bool false] w fun e w' => ∃ r : Int, e = .returned (.int .i64 r) ∧ decide (0 ≤ r) = !decide (m = 2 ^ n - 1) ∧ w = w' := by
  go_enter Tryd.func74, Tryd.ntmps74
  go_wp2
  go_loop [5, 8] (fun _ i => ∃ j : Nat, j ≤ n ∧ i = .int .i64 j ∧ Hid (∀ i, i < j → m.testBit i = true)) (fun _ i => n - (intOf i).toNat)
  case atStart => exact ⟨0, Nat.zero_le _, rfl, by simp [Hid]⟩
  case round =>
    obtain ⟨j, hj, rfl, hE⟩ := hrel
    by_cases hlt : j < n
    · have hc := h.cell hlt
      obtain ⟨t, ht⟩ : ∃ t, t = m.testBit j := ⟨_, rfl⟩
      rw [← ht] at hc
      cases t with
      | true =>
        have HE := Lib.hid (show ∀ i, i < j + 1 → m.testBit i = true by
          intro i hi
          rcases Nat.lt_or_ge i j with h1 | h1
          · exact hE.out i h1
          · obtain rfl : i = j := by omega
            exact ht.symm)
        clear h ht hm
        go_wp2
        go_round
        case rel => exact ⟨j + 1, by omega, by go_num, HE.out⟩
        case measure => simp [intOf]; omega
      | false =>
        have HE := Lib.hid (show (!decide (m = 2 ^ n - 1)) = true by
          simp only [Bool.not_eq_true', decide_eq_false_iff_not]
          intro e
          subst e
          rw [Nat.testBit_two_pow_sub_one] at ht
          simp [hlt] at ht)
        clear h ht hm
        go_wp2
        go_ret
        exact ⟨_, rfl, by rw [HE.out]; simp, rfl⟩
    · have HE := Lib.hid (show (!decide (m = 2 ^ n - 1)) = false by
        simp only [Bool.not_eq_false', decide_eq_true_eq]
        apply Nat.eq_of_testBit_eq
        intro i
        rw [Nat.testBit_two_pow_sub_one]
        by_cases hi : i < n
        · rw [hE.out i (by omega)]; simp [hi]
        · simp only [hi, decide_false]
          exact Nat.testBit_lt_two_pow (Nat.lt_of_lt_of_le hm (Nat.pow_le_pow_right (by omega) (by omega))))
      clear h hm
      go_wp2
      go_ret
      exact ⟨_, rfl, by rw [HE.out]; rfl, rfl⟩

theorem containsBools (g n m cap : Nat) (w : World) (h : Bools w g n m) (hn : n ≤ 4) (hm : m < 2 ^ n) :
    Calls Tryd.prog 53 #[.slice (some ⟨g, 0, none⟩) n cap, .bool false] w fun e w' => e = .returned (.bool (!decide (m = 2 ^ n - 1))) ∧ w = w' := by
  go_enter Tryd.func53, Tryd.ntmps53
  go_wp2_with fail
  refine (indexBools _ _ _ _ _ h hn hm).mono ?_
  rintro e w' ⟨r, rfl, hr, rfl⟩
  have HR := Lib.hid hr
  clear hr hm
  go_wp2_with fail
  go_ret
  exact ⟨ret_bool HR.out, rfl⟩

end Go.Proofs.YtpgfkjcekhifiaaDoor

/- Plain: groups of a table, degrees. -/
namespace Go.Proofs.YtpgfkjcekhifiaaDoor
open Go.RowKit
set_option linter.unusedVariables false
set_option linter.unusedSimpArgs false

theorem colsFrom_len' {n : Int} : ∀ {p : Int} {xs : List Int}, -1 ≤ p → p ≤ n - 1 → colsFrom n p xs = true → (xs.length : Int) ≤ n - 1 - p
  | p, [], h1, h2, _ => by simp; omega
  | p, v :: t, h1, h2, h => by
    simp only [colsFrom, Bool.and_eq_true, decide_eq_true_eq, betw] at h
    have := colsFrom_len' (p := v) (xs := t) (by omega) (by omega) h.2
    simp only [List.length_cons]; omega
theorem colsB_len' {n : Int} {xs : List Int} (hn : 0 ≤ n) (h : colsB n xs = true) : (xs.length : Int) ≤ n := by
  have := colsFrom_len' (n := n) (p := -1) (xs := xs) (by omega) (by omega) h
  omega
/-- Rows at columns. -/
def selRows (rows : List (List Int)) (cs : List Int) : List (List Int) := rows.map (fun r => sel r cs)
theorem selRows_len (rows : List (List Int)) (cs : List Int) : (selRows rows cs).length = rows.length := by simp [selRows]
theorem selRows_step {rows : List (List Int)} {cs r : List Int} {j : Nat} (h : rows[j]? = some r) : selRows (rows.take (j + 1)) cs = selRows (rows.take j) cs ++ [sel r cs] := by
  rw [List.take_add_one, h]; simp [selRows]
theorem selRows_get {rows : List (List Int)} {cs r : List Int} {j : Nat} (h : rows[j]? = some r) : (selRows rows cs)[j]? = some (sel r cs) := by simp [selRows, h]
/-- How often each of some rows stands among rows. -/
def countsOf (gs all : List (List Int)) : List Int := gs.map (fun g => (cntRow g all : Int))
theorem countsOf_len (gs all : List (List Int)) : (countsOf gs all).length = gs.length := by simp [countsOf]
theorem countsOf_step {gs all : List (List Int)} {g : List Int} {j : Nat} (h : gs[j]? = some g) : countsOf (gs.take (j + 1)) all = countsOf (gs.take j) all ++ [(cntRow g all : Int)] := by
  rw [List.take_add_one, h]; simp [countsOf]
theorem cntRow_at {g r : List Int} {all : List (List Int)} {j : Nat} (h : all[j]? = some r) : cntRow g (all.drop j) = (if r = g then 1 else 0) + cntRow g (all.drop (j + 1)) := by
  obtain ⟨h1, rfl⟩ := List.getElem?_eq_some_iff.1 h
  rw [List.drop_eq_getElem_cons h1]
  unfold cntRow
  rw [List.filter_cons]
  by_cases e : all[j] = g <;> simp [e] <;> omega
theorem cntRow_end {g : List Int} {all : List (List Int)} {j : Nat} (h : all.length ≤ j) : cntRow g (all.drop j) = 0 := by
  rw [List.drop_eq_nil_of_le h]; rfl
theorem cntRow_take {g r : List Int} {all : List (List Int)} {j : Nat} (h : all[j]? = some r) : cntRow g (all.take (j + 1)) = cntRow g (all.take j) + (if r = g then 1 else 0) := by
  rw [List.take_add_one, h]
  unfold cntRow
  rw [List.filter_append, List.length_append]
  by_cases e : r = g <;> simp [e]
theorem cntRow_le (g : List Int) (all : List (List Int)) : cntRow g all ≤ all.length := List.length_filter_le _ _
def groups (t : DT) (cs : List Int) : List (List Int) := canon (selRows t.2.2 cs)
/-- GroupCounts. -/
def grpV (t : DT) (cs : List Int) : List (List Int) := if colsT t cs then groups t cs else []
def grpN (t : DT) (cs : List Int) : List Int := if colsT t cs then countsOf (groups t cs) (selRows t.2.2 cs) else []
/-- In descending order. -/
def downS (l : List Int) : List Int := (l.mergeSort (fun x y => decide (x ≤ y))).reverse
theorem downS_len (l : List Int) : (downS l).length = l.length := by simp [downS]
theorem downS_uniq {l s : List Int} (hp : s.Perm l) (hs : s.Pairwise (· ≥ ·)) : s = downS l := by
  refine List.Perm.eq_of_pairwise (le := (· ≥ ·)) (fun a b _ _ h k => Int.le_antisymm k h) hs ?_ (hp.trans ((List.mergeSort_perm l _).symm.trans (List.reverse_perm _).symm))
  unfold downS
  rw [List.pairwise_reverse]
  have := List.pairwise_mergeSort (le := fun x y : Int => decide (x ≤ y)) (by intro a b c; simp; omega) (by intro a b; simp; omega) l
  exact this.imp fun h => by simpa using h
theorem ins_ok {out : List Int} {x : Int} {k : Nat} (hs : out.Pairwise (· ≥ ·)) (hk : k ≤ out.length) (h1 : k = 0 ∨ x ≤ out.getD (k - 1) 0) (h2 : ∀ j, k ≤ j → j < out.length → out.getD j 0 < x) :
    (out.take k ++ [x] ++ out.drop k).Pairwise (· ≥ ·) ∧ (out.take k ++ [x] ++ out.drop k).Perm (out ++ [x]) := by
  have hg : ∀ j (hj : j < out.length), out.getD j 0 = out[j] := fun j hj => by rw [List.getD_eq_getElem?_getD, List.getElem?_eq_getElem hj]; rfl
  have hmono : ∀ i j, i ≤ j → j < out.length → out.getD j 0 ≤ out.getD i 0 := fun i j hij hj => by
    rcases Nat.eq_or_lt_of_le hij with rfl | hlt
    · exact Int.le_refl _
    · rw [hg i (by omega), hg j hj]; exact (List.pairwise_iff_getElem.1 hs) i j (by omega) hj hlt
  constructor
  · rw [List.append_assoc, List.pairwise_append]
    refine ⟨hs.sublist (List.take_sublist _ _), ?_, ?_⟩
    · rw [List.singleton_append, List.pairwise_cons]
      refine ⟨?_, hs.sublist (List.drop_sublist _ _)⟩
      intro y hy
      obtain ⟨j, hj, rfl⟩ := List.mem_iff_getElem.1 hy
      rw [List.length_drop] at hj
      rw [List.getElem_drop, ← hg (k + j) (by omega)]
      have := h2 (k + j) (by omega) (by omega)
      omega
    · intro a ha b hb
      obtain ⟨i, hi, rfl⟩ := List.mem_iff_getElem.1 ha
      rw [List.length_take] at hi
      rw [List.getElem_take, ← hg i (by omega)]
      have hax : x ≤ out.getD i 0 := by
        rcases h1 with h | h
        · omega
        · have := hmono i (k - 1) (by omega) (by omega); omega
      rcases List.mem_append.1 hb with hb | hb
      · simp only [List.mem_singleton] at hb; subst hb; exact hax
      · obtain ⟨j, hj, rfl⟩ := List.mem_iff_getElem.1 hb
        rw [List.length_drop] at hj
        rw [List.getElem_drop, ← hg (k + j) (by omega)]
        have := hmono i (k + j) (by omega) (by omega)
        omega
  · have h9 : (out.take k ++ ([x] ++ out.drop k)).Perm (out.take k ++ (out.drop k ++ [x])) := List.Perm.append_left _ List.perm_append_comm
    rw [List.append_assoc]
    refine h9.trans ?_
    rw [← List.append_assoc, List.take_append_drop]
/-- DegreeSequence. -/
def degSeq (t : DT) (cs : List Int) : List Int := downS (grpN t cs)
/-- The first of a list, 0 if there is none. -/
def headOr (l : List Int) : Int := l.headD 0
theorem headOr_get (l : List Int) : headOr l = l.getD 0 0 := by cases l <;> rfl

end Go.Proofs.YtpgfkjcekhifiaaDoor

/- Contracts: data compared by the program. Written by a program. -/
namespace Go.Proofs.YtpgfkjcekhifiaaDoor
open Go.RowKit
set_option linter.unusedVariables false
set_option linter.unusedSimpArgs false
set_option synthInstance.maxSize 2000
set_option synthInstance.maxHeartbeats 400000

theorem equalInts_K (u v : Value) (xs ys : List Int) (w : World) (h : rI.rep w [u] xs) (h' : rI.rep w [v] ys) :
    Calls Tryd.prog 72 #[u, v] w fun e w' => e = .returned (.bool (decide (xs = ys))) ∧ Below w.heap.size w w' := by
  obtain ⟨a, cap, rfl, _, _, hi⟩ := rI_open h
  obtain ⟨a', cap', rfl, _, _, hi'⟩ := rI_open h'
  exact (equalInts _ _ _ _ _ _ _ _ _ hi hi').mono fun e w' ⟨h1, h2⟩ => ⟨h1, h2.below _⟩

set_option maxHeartbeats 2000000 in
theorem equalAtoms_any (cs ds : List Value) (x y : DA) (w : World) (h : rA.rep w cs x) (h' : rA.rep w ds y) :
    Calls Tryd.prog 50 #[.agg cs.toArray, .agg ds.toArray] w fun e w' => e = .returned (.bool (decide (x = y))) ∧ Below w.heap.size w w' := by
  obtain ⟨ub1, un1, uc1, rfl, g0, g1⟩ := rA_open h
  obtain ⟨vb1, vn1, vc1, rfl, k0, k1⟩ := rA_open h'
  clear h h'
  have hb1 : Below w.heap.size w ((w.alloc (.cells #[.string x.1, .slice ub1 un1 uc1] 43)).alloc (.cells #[.string y.1, .slice vb1 vn1 vc1] 43)) := ((Below.refl _ _).alloc (Nat.le_refl _) _).alloc (by simp) _
  go_enter Tryd.func50, Tryd.ntmps50
  obtain ⟨w1, hw1⟩ : ∃ W, W = (w.alloc (.cells #[.string x.1, .slice ub1 un1 uc1] 43)).alloc (.cells #[.string y.1, .slice vb1 vn1 vc1] 43) := ⟨_, rfl⟩
  have s1 : w1.heap.size = w.heap.size + 1 + 1 := by rw [hw1]; simp
  rw [← hw1] at hb1
  have bc_0 : w1.cell? ⟨w.heap.size, 0, none⟩ = some (.string x.1) := by rw [hw1]; simp [go_sem, World.cell?_alloc_past]
  have bd_0 : w1.cell? ⟨w.heap.size + 1, 0, none⟩ = some (.string y.1) := by rw [hw1]; simp [go_sem, World.cell?_alloc_past]
  have bc_1 : w1.cell? ⟨w.heap.size, 1, none⟩ = some (.slice ub1 un1 uc1) := by rw [hw1]; simp [go_sem, World.cell?_alloc_past]
  have bd_1 : w1.cell? ⟨w.heap.size + 1, 1, none⟩ = some (.slice vb1 vn1 vc1) := by rw [hw1]; simp [go_sem, World.cell?_alloc_past]
  by_cases e0 : x.1 = y.1
  case neg =>
    have HE := Lib.hid (show decide (x = y) = false by simp only [decide_eq_false_iff_not]; intro h9; exact e0 (by rw [h9]))
    have hne := bytes_ne e0
    clear e0
    go_wp2_with fail
    go_ret
    exact ⟨ret_bool HE.out.symm, by first | exact hb1 | (rw [hw1] at hb1; exact hb1)⟩
  have E0 := Lib.hid e0
  have hq0 : (x.1.toList == y.1.toList) = true := by rw [e0]; simp
  clear e0
  go_wp2_with fail
  rw [← hw1]
  clear hw1
  refine (equalInts_K _ _ (x.2) (y.2) _ (rI.mono g1 hb1) (rI.mono k1 hb1)).mono ?_
  rintro e w2 ⟨rfl, z2⟩
  have s2 := z2.size
  have hb2 := on hb1 z2
  replace bc_0 := (z2.cell (p := ⟨w.heap.size, 0, none⟩) (by simp only []; omega)).trans bc_0
  replace bd_0 := (z2.cell (p := ⟨w.heap.size + 1, 0, none⟩) (by simp only []; omega)).trans bd_0
  replace bc_1 := (z2.cell (p := ⟨w.heap.size, 1, none⟩) (by simp only []; omega)).trans bc_1
  replace bd_1 := (z2.cell (p := ⟨w.heap.size + 1, 1, none⟩) (by simp only []; omega)).trans bd_1
  by_cases e1 : x.2 = y.2
  case neg =>
    have HE := Lib.hid (show decide (x = y) = false by simp only [decide_eq_false_iff_not]; intro h9; exact e1 (by rw [h9]))
    have hne : decide (x.2 = y.2) = false := by simpa using e1
    rw [hne]
    clear e1 hne
    go_wp2_with fail
    go_ret
    exact ⟨ret_bool HE.out.symm, hb2⟩
  have E1 := Lib.hid e1
  have hq1 : decide (x.2 = y.2) = true := by simpa using e1
  rw [hq1]
  clear e1 hq1
  have HE := Lib.hid (show decide (x = y) = true by simp only [decide_eq_true_eq]; exact Prod.ext E0.out (E1.out))
  go_wp2_with fail
  go_ret
  exact ⟨ret_bool HE.out.symm, hb2⟩

set_option maxHeartbeats 2000000 in
theorem equalFunc_As (u v : Value) (xs ys : List DA) (w : World) (h : rAs.rep w [u] xs) (h' : rAs.rep w [v] ys) :
    Calls Tryd.prog 49 #[u, v, .func (Fn.func 50) #[] #[]] w fun e w' => e = .returned (.bool (decide (xs = ys))) ∧ Below w.heap.size w w' := by
  obtain ⟨a, cap, rfl, _, _, hi⟩ := rS_open h
  obtain ⟨a', cap', rfl, _, _, hi'⟩ := rS_open h'
  clear h h'
  have hn := hi.small
  have hn' := hi'.small
  obtain ⟨n, hl⟩ : ∃ n, xs.length = n := ⟨_, rfl⟩
  obtain ⟨m, hl'⟩ : ∃ n, ys.length = n := ⟨_, rfl⟩
  rw [hl] at hi hn ⊢
  rw [hl'] at hi' hn' ⊢
  by_cases hnm : n = m
  case neg =>
    have HE := Lib.hid (show decide (xs = ys) = false by simp only [decide_eq_false_iff_not]; intro e; subst e; omega)
    have hne : ((n : Int) != (m : Int)) = true := by rw [bne_iff_ne]; omega
    clear hl hl' hi hi'
    go_enter Tryd.func49, Tryd.ntmps49
    go_wp2_with fail
    go_ret
    exact ⟨ret_bool HE.out.symm, Below.refl _ _⟩
  subst hnm
  go_enter Tryd.func49, Tryd.ntmps49
  go_wp2_with fail
  go_loopw [7, 8, 17] (fun _ _ k wr => ∃ j : Nat, j ≤ n ∧ k = .int .i64 j ∧ Hid (xs.take j = ys.take j) ∧ Below w.heap.size w wr) (fun _ _ k _ => n - (intOf k).toNat)
  case atStart => exact ⟨0, Nat.zero_le _, rfl, rfl, Below.refl _ _⟩
  case round =>
    obtain ⟨j, hj, rfl, hE, hb⟩ := hrel
    by_cases hlt : j < n
    · obtain ⟨b, off, cs, x, rfl, hx, hr, hc⟩ := (hi.below hb).at hlt
      obtain ⟨b', off', ds, y, rfl, hy, hr', hd⟩ := (hi'.below hb).at hlt
      obtain ⟨ub1, un1, uc1, rfl⟩ := rA_form hr
      obtain ⟨vb1, vn1, vc1, rfl⟩ := rA_form hr'
      have c0 : wr.cell? ⟨b, off + j * 2, none⟩ = some (.string x.1) := by have h9 := hc 0 _ rfl; rw [← Nat.add_assoc] at h9; exact h9
      have c1 : wr.cell? ⟨b, off + j * 2 + 1, none⟩ = some (.slice ub1 un1 uc1) := by have h9 := hc 1 _ rfl; rw [← Nat.add_assoc] at h9; exact h9
      have d0 : wr.cell? ⟨b', off' + j * 2, none⟩ = some (.string y.1) := by have h9 := hd 0 _ rfl; rw [← Nat.add_assoc] at h9; exact h9
      have d1 : wr.cell? ⟨b', off' + j * 2 + 1, none⟩ = some (.slice vb1 vn1 vc1) := by have h9 := hd 1 _ rfl; rw [← Nat.add_assoc] at h9; exact h9
      have hcall := fun (W : World) (hW : Below wr.heap.size wr W) => equalAtoms_any _ _ x y W (rA.mono hr hW) (rA.mono hr' hW)
      have lb' : b' < wr.heap.size := cell_lt d0
      have da0 : (wr.alloc (.cells #[.string x.1, .slice ub1 un1 uc1] 43)).cell? ⟨b', off' + j * 2, none⟩ = some (.string y.1) := (((Below.refl _ _).alloc (Nat.le_refl _) _).cell (B := wr.heap.size) (p := ⟨b', off' + j * 2, none⟩) lb').trans d0
      have da1 : (wr.alloc (.cells #[.string x.1, .slice ub1 un1 uc1] 43)).cell? ⟨b', off' + j * 2 + 1, none⟩ = some (.slice vb1 vn1 vc1) := (((Below.refl _ _).alloc (Nat.le_refl _) _).cell (B := wr.heap.size) (p := ⟨b', off' + j * 2 + 1, none⟩) lb').trans d1
      obtain ⟨t, ht⟩ : ∃ t, t = decide (x = y) := ⟨_, rfl⟩
      rw [← ht] at hcall
      have HC := Lib.hid hcall
      clear hcall hi hi' hr hr' hc hd
      have HT : Hid (if t = true then xs.take (j + 1) = ys.take (j + 1) else decide (xs = ys) = false) := by
        cases t
        · simp only [Bool.false_eq_true, if_false]
          have hxy : x ≠ y := by simpa using ht.symm
          simp only [Hid, Bool.false_eq_true, if_false, decide_eq_false_iff_not]; intro e; subst e; exact hxy (Option.some.inj (hx.out.symm.trans hy.out))
        · have hxy : x = y := by simpa using ht.symm
          simp only [Hid, if_true]; rw [take_snoc' xs j x hx.out, take_snoc' ys j y hy.out, hE.out, hxy]
      clear ht hx hy hE
      go_wp2_with fail
      have hbx : Below wr.heap.size wr ((wr.alloc (.cells #[.string x.1, .slice ub1 un1 uc1] 43)).alloc (.cells #[.string y.1, .slice vb1 vn1 vc1] 43)) := ((Below.refl _ _).alloc (Nat.le_refl _) _).alloc (by simp) _
      refine (HC.out _ hbx).mono ?_
      rintro e w1 ⟨rfl, z1⟩
      have z2 := on hb (on hbx z1)
      clear hbx da0 da1
      cases t
      · have HE : Hid (decide (xs = ys) = false) := by simpa [Hid] using HT.out
        go_wp2_with fail
        go_ret
        exact ⟨ret_bool HE.out.symm, z2⟩
      · have HE : Hid (xs.take (j + 1) = ys.take (j + 1)) := by simpa [Hid] using HT.out
        go_wp2_with fail
        go_roundw
        case rel => exact ⟨j + 1, by omega, by go_num, HE.out, z2⟩
        case measure => simp [intOf]; omega
    · have HE := Lib.hid (show decide (xs = ys) = true by
        have e := hE.out
        rw [List.take_of_length_le (by omega), List.take_of_length_le (by omega)] at e
        simp [e])
      clear hi hi' hl hl'
      go_wp2_with fail
      go_ret
      exact ⟨ret_bool HE.out.symm, hb⟩

set_option maxHeartbeats 2000000 in
theorem equalQ_impl (cs ds : List Value) (x y : DQ) (w : World) (h : rQ.rep w cs x) (h' : rQ.rep w ds y) :
    Calls Tryd.prog 21 #[.agg cs.toArray, .agg ds.toArray] w fun e w' => e = .returned (.bool (decide (x = y))) ∧ Below w.heap.size w w' := by
  obtain ⟨ub1, un1, uc1, rfl, g0, g1⟩ := rQ_open h
  obtain ⟨vb1, vn1, vc1, rfl, k0, k1⟩ := rQ_open h'
  clear h h'
  have hb1 : Below w.heap.size w ((w.alloc (.cells #[.int .i64 x.1, .slice ub1 un1 uc1] 24)).alloc (.cells #[.int .i64 y.1, .slice vb1 vn1 vc1] 24)) := ((Below.refl _ _).alloc (Nat.le_refl _) _).alloc (by simp) _
  go_enter Tryd.func21, Tryd.ntmps21
  obtain ⟨w1, hw1⟩ : ∃ W, W = (w.alloc (.cells #[.int .i64 x.1, .slice ub1 un1 uc1] 24)).alloc (.cells #[.int .i64 y.1, .slice vb1 vn1 vc1] 24) := ⟨_, rfl⟩
  have s1 : w1.heap.size = w.heap.size + 1 + 1 := by rw [hw1]; simp
  rw [← hw1] at hb1
  have bc_0 : w1.cell? ⟨w.heap.size, 0, none⟩ = some (.int .i64 x.1) := by rw [hw1]; simp [go_sem, World.cell?_alloc_past]
  have bd_0 : w1.cell? ⟨w.heap.size + 1, 0, none⟩ = some (.int .i64 y.1) := by rw [hw1]; simp [go_sem, World.cell?_alloc_past]
  have bc_1 : w1.cell? ⟨w.heap.size, 1, none⟩ = some (.slice ub1 un1 uc1) := by rw [hw1]; simp [go_sem, World.cell?_alloc_past]
  have bd_1 : w1.cell? ⟨w.heap.size + 1, 1, none⟩ = some (.slice vb1 vn1 vc1) := by rw [hw1]; simp [go_sem, World.cell?_alloc_past]
  by_cases e0 : x.1 = y.1
  case neg =>
    have HE := Lib.hid (show decide (x = y) = false by simp only [decide_eq_false_iff_not]; intro h9; exact e0 (by rw [h9]))
    have hne : (x.1 == y.1) = false := beq_eq_false_iff_ne.2 e0
    clear e0
    go_wp2_with fail
    go_ret
    exact ⟨ret_bool HE.out.symm, by first | exact hb1 | (rw [hw1] at hb1; exact hb1)⟩
  have E0 := Lib.hid e0
  have hq0 : (x.1 == y.1) = true := by rw [e0]; simp
  clear e0
  go_wp2_with fail
  rw [← hw1]
  clear hw1
  refine (equalFunc_As _ _ (x.2) (y.2) _ (rAs.mono g1 hb1) (rAs.mono k1 hb1)).mono ?_
  rintro e w2 ⟨rfl, z2⟩
  have s2 := z2.size
  have hb2 := on hb1 z2
  replace bc_0 := (z2.cell (p := ⟨w.heap.size, 0, none⟩) (by simp only []; omega)).trans bc_0
  replace bd_0 := (z2.cell (p := ⟨w.heap.size + 1, 0, none⟩) (by simp only []; omega)).trans bd_0
  replace bc_1 := (z2.cell (p := ⟨w.heap.size, 1, none⟩) (by simp only []; omega)).trans bc_1
  replace bd_1 := (z2.cell (p := ⟨w.heap.size + 1, 1, none⟩) (by simp only []; omega)).trans bd_1
  by_cases e1 : x.2 = y.2
  case neg =>
    have HE := Lib.hid (show decide (x = y) = false by simp only [decide_eq_false_iff_not]; intro h9; exact e1 (by rw [h9]))
    have hne : decide (x.2 = y.2) = false := by simpa using e1
    rw [hne]
    clear e1 hne
    go_wp2_with fail
    go_ret
    exact ⟨ret_bool HE.out.symm, hb2⟩
  have E1 := Lib.hid e1
  have hq1 : decide (x.2 = y.2) = true := by simpa using e1
  rw [hq1]
  clear e1 hq1
  have HE := Lib.hid (show decide (x = y) = true by simp only [decide_eq_true_eq]; exact Prod.ext E0.out (E1.out))
  go_wp2_with fail
  go_ret
  exact ⟨ret_bool HE.out.symm, hb2⟩

end Go.Proofs.YtpgfkjcekhifiaaDoor

/- Marks of queries. Written by a program. -/
namespace Go.Proofs.YtpgfkjcekhifiaaDoor
open Go.RowKit
set_option linter.unusedVariables false
set_option linter.unusedSimpArgs false
set_option synthInstance.maxSize 2000
set_option synthInstance.maxHeartbeats 400000

def cnt_Q (x : DQ) : Nat := cnt_As x.2
def mk_Q (k : Int) (x : DQ) : DQ := (x.1, mk_As k x.2)
theorem cnt_le_Q (x : DQ) : cnt_Q x ≤ 2 * bulk_Q x := by
  have h1 := cnt_le_As x.2
  simp only [cnt_Q, bulk_Q]; omega

set_option maxHeartbeats 1000000 in
theorem mark_Q (us : List Value) (x : DQ) (k : Int) (lo hi : Nat) (w : World) (h : Own oQ lo hi w us x) (hh : hi ≤ w.heap.size) (k0 : 1 ≤ k) (k1 : k + cnt_Q x ≤ 1000000000) (hb : bulk_Q x ≤ 100000000) :
    Calls Tryd.prog 8 #[.agg us.toArray, .int .i64 k] w fun e w' => e = .returned (.int .i64 (k + cnt_Q x)) ∧ Own oQ lo hi w' us (mk_Q k x) ∧ Turn lo hi w w' := by
  obtain ⟨fp, hrep, hfn, hfr⟩ := h
  obtain ⟨c0, d0, p0, q0, rfl, rfl, ⟨rfl, hs0, rfl⟩, t1⟩ := hrep
  obtain ⟨a1, n1, rfl⟩ := oS_len t1
  have HN := Lib.hid hfn
  have HFR := Lib.hid hfr
  try simp only [List.nodup_append, List.nil_append, List.append_nil] at hfn
  have hn1 : q0.Nodup := by first | exact hfn | exact hfn.1 | exact hfn.2.1 | exact hfn.2.1.1 | exact hfn.2.1.2.1
  have hlt1 : ∀ p9, p9 ∈ q0 → p9 < w.heap.size := fun p9 hp9 => by have := hfr p9 (by simp [hp9]); omega
  simp only [cnt_Q, bulk_Q] at *
  clear hfn hfr
  go_enter Tryd.func8, Tryd.ntmps8
  obtain ⟨w1, hw1⟩ : ∃ W, W = w.alloc (.cells #[.int .i64 x.1, .slice a1 x.2.length n1] 24) := ⟨_, rfl⟩
  have z1 : Below w.heap.size w w1 := by rw [hw1]; exact (Below.refl _ _).alloc (Nat.le_refl _) _
  have A1 := Alt.below (fp := [] ++ q0) z1
  have c1 : w1.cell? ⟨w.heap.size, 1, none⟩ = some (.slice a1 x.2.length n1) := by rw [hw1]; exact box_cell (Below.refl _ _) rfl
  replace t1 := oAs.frame t1 (fun p9 hp9 => z1.block p9 (hlt1 p9 hp9))
  have hz1 := z1.size
  go_wp2_with fail
  rw [← hw1]
  clear hw1 z1
  refine (markR_As a1 x.2.length n1 x.2 q0 _ _ t1 hn1 (by omega) (by omega) (by omega)).mono ?_
  rintro e w2 ⟨rfl, t1, z2⟩
  have A2 := A1.trans (z2.mono (fq := [] ++ q0) (fun p9 hp9 => by simp [hp9]))
  clear z2
  have HR : Hid (Own oQ lo hi w2 [.int .i64 x.1, .slice a1 x.2.length n1] (mk_Q k x) ∧ Turn lo hi w w2) := ⟨⟨_, ⟨[.int .i64 x.1], [.slice a1 x.2.length n1], [], _, rfl, rfl, ⟨rfl, hs0, rfl⟩, t1⟩, HN.out, HFR.out⟩, A2.turn HFR.out⟩
  clear t1 A1 A2
  go_wp2_with fail
  go_ret
  exact ⟨ret_int (by simp only [cnt_I, cnt_II] <;> omega), HR.out⟩

end Go.Proofs.YtpgfkjcekhifiaaDoor

/- Plain facts: masks of atoms, and the variables of what they hold. -/
namespace Go.Proofs.YtpgfkjcekhifiaaDoor
open Go.RowKit
set_option linter.unusedVariables false
set_option linter.unusedSimpArgs false

/-- What a valid query is known to hold. -/
structure QOk (q : DQ) (n : Nat) : Prop where
  cnt : q.1 = n
  pos : 1 ≤ n
  le : n ≤ 4
  lpos : 1 ≤ q.2.length
  len : q.2.length ≤ 4
  name : ∀ a ∈ q.2, nameB a.1 = true
  vpos : ∀ a ∈ q.2, 1 ≤ a.2.length
  vlen : ∀ a ∈ q.2, a.2.length ≤ 3
  vars : ∀ a ∈ q.2, ∀ v ∈ a.2, 0 ≤ v ∧ v < n
theorem varsFrom_mem {n : Int} : ∀ {vs pre : List Int}, varsFrom n pre vs = true → ∀ v ∈ vs, 0 ≤ v ∧ v < n
  | [], _, _, v, hv => by cases hv
  | x :: t, pre, h, v, hv => by
    simp only [varsFrom, Bool.and_eq_true, betw, decide_eq_true_eq] at h
    rcases List.mem_cons.1 hv with rfl | hv
    · omega
    · exact varsFrom_mem h.2 v hv
theorem validFrom_atoms {n : Nat} : ∀ {xs : List DA} {m : Nat}, validFrom n m xs = true → ∀ a ∈ xs, nameB a.1 = true ∧ 1 ≤ a.2.length ∧ a.2.length ≤ 3 ∧ ∀ v ∈ a.2, 0 ≤ v ∧ v < (n : Int)
  | [], _, _, a, ha => by cases ha
  | x :: t, m, h, a, ha => by
    simp only [validFrom, Bool.and_eq_true, betw, decide_eq_true_eq] at h
    rcases List.mem_cons.1 ha with rfl | ha
    · exact ⟨h.1.1, by omega, by omega, varsFrom_mem h.2.1⟩
    · exact validFrom_atoms h.2.2 a ha
theorem QOk.of {q : DQ} (h : validQ q = true) : ∃ n, QOk q n := by
  simp only [validQ, Bool.and_eq_true, betw, decide_eq_true_eq] at h
  have hf := validFrom_atoms h.2
  refine ⟨q.1.toNat, by omega, by omega, by omega, by omega, by omega, fun a ha => (hf a ha).1, fun a ha => (hf a ha).2.1, fun a ha => (hf a ha).2.2.1, fun a ha => (hf a ha).2.2.2⟩

/-- The variables, as bits, of the atoms of a mask; i: the first atom's number. -/
def qbits (K m : Nat) : Nat → List DA → Nat
  | _, [] => m
  | i, a :: t => qbits K (if bitAt K i then vbits m a.2 else m) (i + 1) t
/-- The variables of a mask. -/
def bitsOf (q : DQ) (K : Nat) : Nat := qbits K 0 0 q.2

theorem qbits_at {K m j : Nat} {xs : List DA} {a : DA} (h : xs[j]? = some a) : qbits K m j (xs.drop j) = qbits K (if bitAt K j then vbits m (a.2.drop 0) else m) (j + 1) (xs.drop (j + 1)) := by
  obtain ⟨h1, rfl⟩ := List.getElem?_eq_some_iff.1 h
  rw [List.drop_eq_getElem_cons h1]; simp [qbits]
theorem qbits_end {K m j : Nat} {xs : List DA} (h : xs.length ≤ j) : qbits K m j (xs.drop j) = m := by
  rw [List.drop_eq_nil_of_le h]; rfl

theorem vbits_or : ∀ (vs : List Int) (m : Nat), vbits m vs = m ||| vbits 0 vs
  | [], m => by simp [vbits]
  | v :: t, m => by
    rw [vbits, vbits, vbits_or t (m ||| 2 ^ v.toNat), vbits_or t (0 ||| 2 ^ v.toNat), Nat.zero_or, Nat.or_assoc]
theorem vbits_lt {n : Nat} : ∀ {vs : List Int} {m : Nat}, (∀ v ∈ vs, 0 ≤ v ∧ v < (n : Int)) → m < 2 ^ n → vbits m vs < 2 ^ n
  | [], m, _, hm => hm
  | v :: t, m, h, hm => by
    have h1 := h v (by simp)
    have h2 : v.toNat < n := by omega
    show vbits (m ||| 2 ^ v.toNat) t < 2 ^ n
    exact @vbits_lt n t (m ||| 2 ^ v.toNat) (fun x hx => h x (by simp [hx])) (or_lt hm h2)
theorem vbits_test {j : Nat} : ∀ {vs : List Int} {m : Nat}, (∀ v ∈ vs, 0 ≤ v) → ((vbits m vs).testBit j = (m.testBit j || has vs (j : Int)))
  | [], m, _ => by simp [vbits, has]
  | v :: t, m, h => by
    have hv := h v (by simp)
    rw [vbits, vbits_test (fun x hx => h x (by simp [hx])), Nat.testBit_or, Bool.or_assoc]
    congr 1
    obtain ⟨k, rfl⟩ := Int.eq_ofNat_of_zero_le hv
    by_cases e : k = j
    · subst e
      simp [Nat.testBit_two_pow_self, has]
    · have e' : ¬ (j : Int) = (k : Int) := by omega
      simp [Nat.testBit_two_pow_of_ne e, has, e']
theorem qbits_lt {K n : Nat} : ∀ {xs : List DA} {m i : Nat}, (∀ a ∈ xs, ∀ v ∈ a.2, 0 ≤ v ∧ v < (n : Int)) → m < 2 ^ n → qbits K m i xs < 2 ^ n
  | [], m, i, _, hm => hm
  | a :: t, m, i, h, hm => by
    rw [qbits]
    refine qbits_lt (fun b hb => h b (by simp [hb])) ?_
    split
    · exact vbits_lt (h a (by simp)) hm
    · exact hm
theorem QOk.bits_lt {q : DQ} {n : Nat} (h : QOk q n) (K : Nat) : bitsOf q K < 2 ^ n := qbits_lt h.vars (Nat.two_pow_pos _)
/-- Whether some atom of a mask, from atom i on, holds variable v. -/
def someFrom (K v : Nat) : Nat → List DA → Bool
  | _, [] => false
  | i, a :: t => (bitAt K i && has a.2 (v : Int)) || someFrom K v (i + 1) t
theorem someFrom_at {K v j : Nat} {xs : List DA} {a : DA} (h : xs[j]? = some a) : someFrom K v j (xs.drop j) = ((bitAt K j && has a.2 (v : Int)) || someFrom K v (j + 1) (xs.drop (j + 1))) := by
  obtain ⟨h1, rfl⟩ := List.getElem?_eq_some_iff.1 h
  rw [List.drop_eq_getElem_cons h1]; rfl
theorem someFrom_end {K v j : Nat} {xs : List DA} (h : xs.length ≤ j) : someFrom K v j (xs.drop j) = false := by
  rw [List.drop_eq_nil_of_le h]; rfl
theorem qbits_some {K v : Nat} : ∀ {xs : List DA} {m i : Nat}, (∀ a ∈ xs, ∀ v ∈ a.2, 0 ≤ v) → ((qbits K m i xs).testBit v = (m.testBit v || someFrom K v i xs))
  | [], m, i, _ => by simp [qbits, someFrom]
  | a :: t, m, i, h => by
    rw [qbits, qbits_some (fun b hb => h b (by simp [hb])), someFrom]
    split
    · rename_i hb; rw [vbits_test (h a (by simp)), hb]; simp [Bool.or_assoc]
    · rename_i hb; simp [hb]
theorem QOk.some {q : DQ} {n : Nat} (h : QOk q n) (K v : Nat) : bitAt (bitsOf q K) v = someFrom K v 0 (q.2.drop 0) := by
  rw [bitAt_testBit, bitsOf, qbits_some (fun a ha x hx => (h.vars a ha x hx).1)]; simp
/-- The variables of a mask. -/
def varsOf (q : DQ) (K : Nat) : List Int := bitsTo (bitsOf q K) 4
theorem bitsTo_more {x n : Nat} (h : x < 2 ^ n) : ∀ k, bitsTo x (n + k) = bitsTo x n
  | 0 => rfl
  | k + 1 => by
    rw [show n + (k + 1) = n + k + 1 by omega, bitsTo_no, bitsTo_more h k]
    rw [bitAt_testBit]
    exact Nat.testBit_lt_two_pow (Nat.lt_of_lt_of_le h (Nat.pow_le_pow_right (by omega) (by omega)))
theorem QOk.varsOf {q : DQ} {n : Nat} (h : QOk q n) (K : Nat) : varsOf q K = bitsTo (bitsOf q K) n := by
  have := bitsTo_more (h.bits_lt K) (4 - n)
  rw [show n + (4 - n) = 4 by have := h.le; omega] at this
  exact this
theorem bitsTo_has {x : Nat} : ∀ {m v : Nat}, has (bitsTo x m) (v : Int) = (decide (v < m) && x.testBit v)
  | 0, v => by simp [bitsTo, has]
  | m + 1, v => by
    have ih := @bitsTo_has x m v
    simp only [has] at ih ⊢
    rw [Bool.eq_iff_iff] at ih ⊢
    simp only [decide_eq_true_eq, Bool.and_eq_true] at ih ⊢
    simp only [bitsTo, List.mem_append]
    rw [bitAt_testBit]
    constructor
    · rintro (h | h)
      · have := ih.1 h; exact ⟨by omega, this.2⟩
      · split at h
        · rename_i hb; simp only [List.mem_singleton] at h; obtain rfl : v = m := by omega
          exact ⟨by omega, hb⟩
        · simp at h
    · rintro ⟨h1, h2⟩
      rcases Nat.lt_or_ge v m with h3 | h3
      · exact .inl (ih.2 ⟨h3, h2⟩)
      · obtain rfl : v = m := by omega
        right; simp [h2]
theorem varsOf_has (q : DQ) {K v : Nat} (hv : v < 4) : has (varsOf q K) (v : Int) = (bitsOf q K).testBit v := by
  rw [Go.Proofs.YtpgfkjcekhifiaaDoor.varsOf, bitsTo_has]; simp [hv]

/-- The full mask of a query. -/
def fullMask (q : DQ) : Int := if validQ q then ((2 ^ q.2.length - 1 : Nat) : Int) else 0
/-- Whether a query is valid and a mask one of its atoms. -/
def maskOkB (q : DQ) (k : Int) : Bool := validQ q && betw k 0 ((2 ^ q.2.length - 1 : Nat) : Int)
/-- MaskVariables. -/
def maskVars (q : DQ) (k : Int) : List Int := if maskOkB q k then varsOf q k.toNat else []
theorem maskVars_no {q : DQ} {k : Int} (h : maskOkB q k = false) : maskVars q k = [] := by simp [maskVars, h]
theorem maskVars_yes {q : DQ} {K : Nat} (h : maskOkB q (K : Int) = true) : maskVars q (K : Int) = varsOf q K := by simp [maskVars, h]
theorem maskOkB_lt {q : DQ} {k : Int} (h : maskOkB q k = true) : ∃ K : Nat, k = K ∧ K < 2 ^ q.2.length := by
  simp only [maskOkB, Bool.and_eq_true, betw, decide_eq_true_eq] at h
  have := Nat.two_pow_pos q.2.length
  exact ⟨k.toNat, by omega, by omega⟩
theorem maskOkB_valid {q : DQ} {k : Int} (h : maskOkB q k = true) : validQ q = true := by
  simp only [maskOkB, Bool.and_eq_true] at h; exact h.1
theorem varsOf_len (q : DQ) (K : Nat) : (varsOf q K).length ≤ 4 := bitsTo_len _ _
theorem maskVars_len (q : DQ) (k : Int) : (maskVars q k).length ≤ 4 := by
  unfold maskVars; split
  · exact varsOf_len _ _
  · simp
/-- What of one list is among another. -/
def both (xs ys : List Int) : List Int := xs.filter (has ys)
theorem both_yes {xs ys : List Int} {j : Nat} {x : Int} (hj : j < xs.length) (hx : xs.getD j 0 = x) (h : has ys x = true) : both (xs.take (j + 1)) ys = both (xs.take j) ys ++ [x] := by
  rw [take_snoc xs j hj, hx, both, List.filter_append, both]; simp [h]
theorem both_no {xs ys : List Int} {j : Nat} {x : Int} (hj : j < xs.length) (hx : xs.getD j 0 = x) (h : has ys x = false) : both (xs.take (j + 1)) ys = both (xs.take j) ys := by
  rw [take_snoc xs j hj, hx, both, List.filter_append, both]; simp [h]
theorem both_len (xs ys : List Int) : (both xs ys).length ≤ xs.length := List.length_filter_le _ _
theorem both_end {xs ys : List Int} {j : Nat} (h : xs.length ≤ j) : both (xs.take j) ys = both xs ys := by rw [List.take_of_length_le h]
end Go.Proofs.YtpgfkjcekhifiaaDoor

/- Contracts: whether a query is valid: the program's. -/
namespace Go.Proofs.YtpgfkjcekhifiaaDoor
open Go.RowKit
set_option linter.unusedVariables false
set_option linter.unusedSimpArgs false
set_option synthInstance.maxSize 2000
set_option synthInstance.maxHeartbeats 400000

theorem infoBool : (Tryd.prog.info? 4).map (fun i => (i.zero, i.size, i.bytes)) = some (some (.bool false), 1, 1) := by kernel_rfl

set_option maxHeartbeats 2000000 in
theorem validQ_impl (cs : List Value) (x : DQ) (w : World) (h : rQ.rep w cs x) :
    Calls Tryd.prog 22 #[.agg cs.toArray] w fun e w' => e = .returned (.bool (validQ x)) ∧ Below w.heap.size w w' := by
  obtain ⟨ub, un, uc, rfl, hi, g1⟩ := rQ_open h
  clear h
  obtain ⟨i, xs⟩ := x
  simp only at hi g1
  obtain ⟨hi1, hi2⟩ := hi
  have t0 := rS_sl g1
  have hl := t0.len
  have hn := t0.small
  clear t0
  have hb0 : Below w.heap.size w w := Below.refl _ _
  by_cases h1 : betw i 1 4 = true
  case neg =>
    replace h1 : betw i 1 4 = false := by simpa using h1
    have HE := Lib.hid (validQ_no1 (q := (i, xs)) h1)
    go_enter Tryd.func22, Tryd.ntmps22
    obtain ⟨w1, hw1⟩ : ∃ W, W = w.alloc (.cells #[.int .i64 i, .slice ub un uc] 24) := ⟨_, rfl⟩
    have z1 : Below w.heap.size w w1 := by rw [hw1]; exact (Below.refl _ _).alloc (Nat.le_refl _) _
    have s1 : w1.heap.size = w.heap.size + 1 := by rw [hw1]; simp
    have hb1 := on hb0 z1
    have b_0 : w1.cell? ⟨w.heap.size, 0, none⟩ = some (.int .i64 i) := by rw [hw1]; exact box_cell (Below.refl _ _) rfl
    have b_1 : w1.cell? ⟨w.heap.size, 1, none⟩ = some (.slice ub un uc) := by rw [hw1]; exact box_cell (Below.refl _ _) rfl
    have raw1_b_0 := b_0
    have raw1_b_1 := b_1
    rw [hw1] at raw1_b_0 raw1_b_1
    go_wp2_with fail
    rw [← hw1]
    clear hw1
    clear raw1_b_0 raw1_b_1
    refine (within_any _ _ _ _).mono ?_
    rintro e w' ⟨rfl, rfl⟩
    clear hl
    go_wp2_with fail
    go_ret
    exact ⟨ret_bool HE.out.symm, hb1⟩
  by_cases h2 : betw un 1 4 = true
  case neg =>
    replace h2 : betw un 1 4 = false := by simpa using h2
    have HE := Lib.hid (validQ_no2 (q := (i, xs)) (by simp only []; rw [hl]; exact h2))
    go_enter Tryd.func22, Tryd.ntmps22
    obtain ⟨w2, hw2⟩ : ∃ W, W = w.alloc (.cells #[.int .i64 i, .slice ub un uc] 24) := ⟨_, rfl⟩
    have z2 : Below w.heap.size w w2 := by rw [hw2]; exact (Below.refl _ _).alloc (Nat.le_refl _) _
    have s2 : w2.heap.size = w.heap.size + 1 := by rw [hw2]; simp
    have hb2 := on hb0 z2
    have b_0 : w2.cell? ⟨w.heap.size, 0, none⟩ = some (.int .i64 i) := by rw [hw2]; exact box_cell (Below.refl _ _) rfl
    have b_1 : w2.cell? ⟨w.heap.size, 1, none⟩ = some (.slice ub un uc) := by rw [hw2]; exact box_cell (Below.refl _ _) rfl
    have raw2_b_0 := b_0
    have raw2_b_1 := b_1
    rw [hw2] at raw2_b_0 raw2_b_1
    go_wp2_with fail
    rw [← hw2]
    clear hw2
    clear raw2_b_0 raw2_b_1
    refine (within_any _ _ _ _).mono ?_
    rintro e w' ⟨rfl, rfl⟩
    go_wp2_with fail
    refine (within_any _ _ _ _).mono ?_
    rintro e w' ⟨rfl, rfl⟩
    clear hl
    go_wp2_with fail
    go_ret
    exact ⟨ret_bool HE.out.symm, hb2⟩
  have h3 := h1
  simp only [betw, Bool.and_eq_true, decide_eq_true_eq] at h3
  obtain ⟨n, rfl⟩ := Int.eq_ofNat_of_zero_le (show 0 ≤ i by omega)
  have hn1 : 1 ≤ n ∧ n ≤ 4 := by omega
  obtain ⟨hn1, hn4⟩ := hn1
  clear h3 hi1 hi2
  have HV := Lib.hid (validQ_go (xs := xs) h1 (by rw [hl]; exact h2))
  have H2 := Lib.hid h2
  go_enter Tryd.func22, Tryd.ntmps22
  obtain ⟨w3, hw3⟩ : ∃ W, W = w.alloc (.cells #[.int .i64 n, .slice ub un uc] 24) := ⟨_, rfl⟩
  have z3 : Below w.heap.size w w3 := by rw [hw3]; exact (Below.refl _ _).alloc (Nat.le_refl _) _
  have s3 : w3.heap.size = w.heap.size + 1 := by rw [hw3]; simp
  have hb3 := on hb0 z3
  have b_0 : w3.cell? ⟨w.heap.size, 0, none⟩ = some (.int .i64 n) := by rw [hw3]; exact box_cell (Below.refl _ _) rfl
  have b_1 : w3.cell? ⟨w.heap.size, 1, none⟩ = some (.slice ub un uc) := by rw [hw3]; exact box_cell (Below.refl _ _) rfl
  have raw3_b_0 := b_0
  have raw3_b_1 := b_1
  rw [hw3] at raw3_b_0 raw3_b_1
  go_wp2_with fail
  rw [← hw3]
  clear hw3
  clear raw3_b_0 raw3_b_1
  refine (within_any _ _ _ _).mono ?_
  rintro e w' ⟨rfl, rfl⟩
  go_wp2_with fail
  refine (within_any _ _ _ _).mono ?_
  rintro e w' ⟨rfl, rfl⟩
  go_wp2_with (at_make; refine wpList_mkS Tryd.underlying65 infoBool rfl (by decide) (by decide) O.bool ([] : List Bool) _ _ n (by omega) rfl rfl rfl rfl ?_; intro w2 hp hz hz2; have s4 := hz.size; have hb4 := on hb3 hz; replace b_0 := (hz.cell (p := ⟨w.heap.size, 0, none⟩) (by simp only []; omega)).trans b_0; replace b_1 := (hz.cell (p := ⟨w.heap.size, 1, none⟩) (by simp only []; omega)).trans b_1)
  have B0 : Bools w2 (w.heap.size + 1) n 0 := by have h9 := Bools.of_part hp; rwa [show w3.heap.size = (w.heap.size + 1) by omega] at h9
  clear hp h1 h2
  go_loopw [25] (fun k wr => ∃ j m : Nat, j ≤ un ∧ m < 2 ^ n ∧ k = .int .i64 j ∧ Hid (validQ ((n : Int), xs) = validFrom n m (xs.drop j)) ∧ Bools wr (w.heap.size + 1) n m ∧ Turn (w.heap.size + 1) (w.heap.size + 2) w2 wr) (fun k _ => un - (intOf k).toNat)
  case atStart => exact ⟨0, 0, Nat.zero_le _, Nat.two_pow_pos _, rfl, HV.out, B0, turn_refl _ _ _⟩
  case round =>
    obtain ⟨j, m, hj, hm, rfl, hE, hB, hdr⟩ := hrel
    obtain ⟨wo, rfl⟩ : ∃ W, W = wr := ⟨_, rfl⟩
    have hlc := hdr
    clear B0
    have s5 := hdr.size
    have hb5 := hb4.trans ((hdr.below (by omega)).mono (by omega))
    replace b_0 := (hdr.cell (p := ⟨w.heap.size, 0, none⟩) (by simp only []; omega) (by simp only []; omega)).trans b_0
    replace b_1 := (hdr.cell (p := ⟨w.heap.size, 1, none⟩) (by simp only []; omega) (by simp only []; omega)).trans b_1
    have t0 := rS_sl g1
    have hm16 := pow_le16 hn4
    by_cases hlt : j < un
    · obtain ⟨b1, o1, cs, x, rfl, hx, hr, hc⟩ := t0.at hlt
      obtain ⟨s, vs⟩ := x
      obtain ⟨vb, vn, vc, rfl, hs, g2⟩ := rA_open hr
      simp only at hs g2
      have i0 := rI_ints g2
      have hvl := i0.len
      have hvs := i0.small
      obtain ⟨hvc, hvc2⟩ := rS_cap g2
      have e_lt : b1 < w.heap.size := cell_lt (hc 0 _ rfl)
      have e_0 : wo.cell? ⟨b1, o1 + j * 2, none⟩ = some (.string s) := (hb5.cell (p := ⟨b1, o1 + j * 2, none⟩) e_lt).trans (by have h9 := hc 0 _ rfl; rw [← Nat.add_assoc] at h9; exact h9)
      have e_1 : wo.cell? ⟨b1, o1 + j * 2 + 1, none⟩ = some (.slice vb vn vc) := (hb5.cell (p := ⟨b1, o1 + j * 2 + 1, none⟩) e_lt).trans (by have h9 := hc 1 _ rfl; rw [← Nat.add_assoc] at h9; exact h9)
      have HA := Lib.hid (hE.out.trans (validFrom_at hx.out))
      clear hc t0 hr hl hx hE i0 HV
      have hg := hB.lt
      obtain ⟨w6, hw6⟩ : ∃ W, W = wo.alloc (.cells #[.string s, .slice vb vn vc] 43) := ⟨_, rfl⟩
      have z6 : Below wo.heap.size wo w6 := by rw [hw6]; exact (Below.refl _ _).alloc (Nat.le_refl _) _
      have s6 : w6.heap.size = wo.heap.size + 1 := by rw [hw6]; simp
      have hb6 := on hb5 z6
      have old6_b_0 := b_0
      have old6_b_1 := b_1
      have old6_e_0 := e_0
      have old6_e_1 := e_1
      replace b_0 := (z6.cell (p := ⟨w.heap.size, 0, none⟩) (by simp only []; omega)).trans b_0
      replace b_1 := (z6.cell (p := ⟨w.heap.size, 1, none⟩) (by simp only []; omega)).trans b_1
      replace hlc := hlc.trans (turn_below z6 (Nat.le_refl _))
      replace e_0 := (z6.cell (p := ⟨b1, o1 + j * 2, none⟩) (by simp only []; omega)).trans e_0
      replace e_1 := (z6.cell (p := ⟨b1, o1 + j * 2 + 1, none⟩) (by simp only []; omega)).trans e_1
      replace hB := hB.below z6 (by omega)
      have p_0 : w6.cell? ⟨wo.heap.size, 0, none⟩ = some (.string s) := by rw [hw6]; exact box_cell (Below.refl _ _) rfl
      have p_1 : w6.cell? ⟨wo.heap.size, 1, none⟩ = some (.slice vb vn vc) := by rw [hw6]; exact box_cell (Below.refl _ _) rfl
      have raw6_b_0 := b_0
      have raw6_b_1 := b_1
      have raw6_e_0 := e_0
      have raw6_e_1 := e_1
      have raw6_p_0 := p_0
      have raw6_p_1 := p_1
      rw [hw6] at raw6_b_0 raw6_b_1 raw6_e_0 raw6_e_1 raw6_p_0 raw6_p_1
      by_cases h1 : nameB s = true
      case neg =>
        replace h1 : nameB s = false := by simpa using h1
        have HE := Lib.hid (show validQ ((n : Int), xs) = false by rw [HA.out]; simp [h1])
        go_wp2_with fail
        rw [← hw6]
        clear hw6
        clear old6_b_0 old6_b_1 old6_e_0 old6_e_1 raw6_b_0 raw6_b_1 raw6_e_0 raw6_e_1 raw6_p_0 raw6_p_1
        refine (nameOk_any _ _ hs).mono ?_
        rintro e w' ⟨rfl, rfl⟩
        go_wp2_with fail
        go_ret
        exact ⟨ret_bool HE.out.symm, hb6⟩
      by_cases h2 : betw vn 1 3 = true
      case neg =>
        replace h2 : betw vn 1 3 = false := by simpa using h2
        have HE := Lib.hid (show validQ ((n : Int), xs) = false by rw [HA.out]; simp [hvl, h2])
        go_wp2_with fail
        rw [← hw6]
        clear hw6
        clear old6_b_0 old6_b_1 old6_e_0 old6_e_1 raw6_b_0 raw6_b_1 raw6_e_0 raw6_e_1 raw6_p_0 raw6_p_1
        refine (nameOk_any _ _ hs).mono ?_
        rintro e w' ⟨rfl, rfl⟩
        go_wp2_with fail
        refine (within_any _ _ _ _).mono ?_
        rintro e w' ⟨rfl, rfl⟩
        go_wp2_with fail
        go_ret
        exact ⟨ret_bool HE.out.symm, hb6⟩
      have HA2 := Lib.hid (show validQ ((n : Int), xs) = (varsFrom n (vs.take 0) (vs.drop 0) && validFrom n (vbits m (vs.drop 0)) (xs.drop (j + 1))) by rw [HA.out]; simp [h1, hvl, h2])
      clear HA
      go_wp2_with fail
      rw [← hw6]
      clear hw6
      clear old6_b_0 old6_b_1 old6_e_0 old6_e_1 raw6_b_0 raw6_b_1 raw6_e_0 raw6_e_1 raw6_p_0 raw6_p_1
      refine (nameOk_any _ _ hs).mono ?_
      rintro e w' ⟨rfl, rfl⟩
      go_wp2_with fail
      refine (within_any _ _ _ _).mono ?_
      rintro e w' ⟨rfl, rfl⟩
      have h3 := h2
      simp only [betw, Bool.and_eq_true, decide_eq_true_eq] at h3
      go_wp2_with fail
      clear h1 h2
      go_loopw [43] (fun k wr => ∃ i m : Nat, i ≤ vn ∧ m < 2 ^ n ∧ k = .int .i64 i ∧ Hid (validQ ((n : Int), xs) = (varsFrom n (vs.take i) (vs.drop i) && validFrom n (vbits m (vs.drop i)) (xs.drop (j + 1)))) ∧ Bools wr (w.heap.size + 1) n m ∧ Turn (w.heap.size + 1) (w.heap.size + 2) w6 wr) (fun k _ => vn - (intOf k).toNat)
      case atStart => exact ⟨0, m, Nat.zero_le _, hm, rfl, HA2.out, hB, turn_refl _ _ _⟩
      case round =>
        obtain ⟨i, m, hi, hm, rfl, hE, hB, hdr⟩ := hrel
        have hlo := hdr
        have s7 := hdr.size
        have hb7 := hb6.trans ((hdr.below (by omega)).mono (by omega))
        replace b_0 := (hdr.cell (p := ⟨w.heap.size, 0, none⟩) (by simp only []; omega) (by simp only []; omega)).trans b_0
        replace b_1 := (hdr.cell (p := ⟨w.heap.size, 1, none⟩) (by simp only []; omega) (by simp only []; omega)).trans b_1
        replace hlc := hlc.trans hdr
        replace e_0 := (hdr.cell (p := ⟨b1, o1 + j * 2, none⟩) (by simp only []; omega) (by simp only []; omega)).trans e_0
        replace e_1 := (hdr.cell (p := ⟨b1, o1 + j * 2 + 1, none⟩) (by simp only []; omega) (by simp only []; omega)).trans e_1
        replace p_0 := (hdr.cell (p := ⟨wo.heap.size, 0, none⟩) (by simp only []; omega) (by simp only []; omega)).trans p_0
        replace p_1 := (hdr.cell (p := ⟨wo.heap.size, 1, none⟩) (by simp only []; omega) (by simp only []; omega)).trans p_1
        have hm16 := pow_le16 hn4
        have i0 := rI_ints g2
        by_cases hlv : i < vn
        · obtain ⟨b2, o2, v, rfl, hc, hv, hv1, hv2⟩ := i0.get hlv
          have v0_lt : b2 < w.heap.size := cell_lt hc
          have v0 : wr.cell? ⟨b2, o2 + i, none⟩ = some (.int .i64 v) := (hb7.cell (p := ⟨b2, o2 + i, none⟩) v0_lt).trans hc
          clear hc
          by_cases h4 : betw v 0 ((n : Int) - 1) = true
          case neg =>
            replace h4 : betw v 0 ((n : Int) - 1) = false := by simpa using h4
            have HE := Lib.hid (show validQ ((n : Int), xs) = false by rw [hE.out, vars_no (by omega) hv.out (by simp [h4])]; rfl)
            clear i0 hvl hB
            go_wp2_with fail
            refine (within_any _ _ _ _).mono ?_
            rintro e w' ⟨rfl, rfl⟩
            go_wp2_with fail
            go_ret
            exact ⟨ret_bool HE.out.symm, hb7⟩
          have hcall := contains_any (some ⟨b2, o2, none⟩) i vc (vs.take i) v wr ((i0.takeTo (by omega)).below hb7)
          obtain ⟨t, ht⟩ : ∃ t, t = has (vs.take i) v := ⟨_, rfl⟩
          rw [← ht] at hcall
          have HC := Lib.hid hcall
          clear hcall
          have h5 := h4
          simp only [betw, Bool.and_eq_true, decide_eq_true_eq] at h5
          obtain ⟨v, rfl⟩ := Int.eq_ofNat_of_zero_le h5.1
          have hvn : v < n := by omega
          clear h5
          cases t with
          | true =>
            have HE := Lib.hid (show validQ ((n : Int), xs) = false by rw [hE.out, vars_no (by omega) hv.out (by rw [← ht]; simp)]; rfl)
            clear i0 hvl ht hB
            go_wp2_with fail
            refine (within_any _ _ _ _).mono ?_
            rintro e w' ⟨rfl, rfl⟩
            go_wp2_with fail
            refine (HC.out).mono ?_
            rintro e w' ⟨rfl, rfl⟩
            go_wp2_with fail
            go_ret
            exact ⟨ret_bool HE.out.symm, hb7⟩
          | false =>
            have HE := Lib.hid (hE.out.trans (show _ = (varsFrom n (vs.take (i + 1)) (vs.drop (i + 1)) && validFrom n (vbits (m ||| 2 ^ v) (vs.drop (i + 1))) (xs.drop (j + 1))) by rw [vars_yes (by omega) hv.out h4 ht.symm, vbits_at (by omega) hv.out]))
            have hB' := hB.set hvn
            have hk := hB.cell hvn
            have hf := hB.frozen v
            have hmo := or_lt hm hvn
            clear i0 hvl ht hB
            go_wp2_with fail
            refine (within_any _ _ _ _).mono ?_
            rintro e w' ⟨rfl, rfl⟩
            go_wp2_with fail
            refine (HC.out).mono ?_
            rintro e w' ⟨rfl, rfl⟩
            go_wp2_with fail
            go_roundw
            case rel => exact ⟨i + 1, m ||| 2 ^ v, by omega, hmo, by go_num, HE.out, hB', hlo.setCell (Nat.le_refl _) (by simp only []; omega) _⟩
            case measure => simp [intOf]; omega
        · have HE := Lib.hid (show validQ ((n : Int), xs) = validFrom n m (xs.drop (j + 1)) by rw [hE.out, vars_end (by omega), vbits_end (by omega)]; rfl)
          clear i0 hvl
          go_wp2_with fail
          go_roundw
          case rel => exact ⟨j + 1, m, by omega, hm, by go_num, HE.out, hB, hlc⟩
          case measure => simp [intOf]; omega
    · have HE := Lib.hid (hE.out.trans (validFrom_end (by omega)))
      clear t0 hl hE HV
      go_wp2_with fail
      refine (containsBools _ _ _ _ _ hB hn4 hm).mono ?_
      rintro e w' ⟨rfl, rfl⟩
      obtain ⟨t, ht⟩ : ∃ t, t = decide (m = 2 ^ n - 1) := ⟨_, rfl⟩
      rw [← ht] at HE ⊢
      clear ht
      go_wp2_with fail
      go_ret
      exact ⟨ret_bool (by rw [HE.out] <;> simp), hb5⟩

end Go.Proofs.YtpgfkjcekhifiaaDoor

/- Contracts: whether a query is valid: the reference's. -/
namespace Go.Proofs.YtpgfkjcekhifiaaDoor
open Go.RowKit
set_option linter.unusedVariables false
set_option linter.unusedSimpArgs false
set_option synthInstance.maxSize 2000
set_option synthInstance.maxHeartbeats 400000

set_option maxHeartbeats 2000000 in
theorem validQ_spec (cs : List Value) (x : DQ) (w : World) (h : rQ.rep w cs x) :
    Calls Tryd.prog 20 #[.agg cs.toArray] w fun e w' => e = .returned (.bool (validQ x)) ∧ Below w.heap.size w w' := by
  obtain ⟨ub, un, uc, rfl, hi, g1⟩ := rQ_open h
  clear h
  obtain ⟨i, xs⟩ := x
  simp only at hi g1
  obtain ⟨hi1, hi2⟩ := hi
  have t0 := rS_sl g1
  have hl := t0.len
  have hn := t0.small
  clear t0
  have hb0 : Below w.heap.size w w := Below.refl _ _
  by_cases h1 : betw i 1 4 = true
  case neg =>
    replace h1 : betw i 1 4 = false := by simpa using h1
    have HE := Lib.hid (validQ_no1 (q := (i, xs)) h1)
    go_enter Tryd.func20, Tryd.ntmps20
    obtain ⟨w1, hw1⟩ : ∃ W, W = w.alloc (.cells #[.int .i64 i, .slice ub un uc] 24) := ⟨_, rfl⟩
    have z1 : Below w.heap.size w w1 := by rw [hw1]; exact (Below.refl _ _).alloc (Nat.le_refl _) _
    have s1 : w1.heap.size = w.heap.size + 1 := by rw [hw1]; simp
    have hb1 := on hb0 z1
    have b_0 : w1.cell? ⟨w.heap.size, 0, none⟩ = some (.int .i64 i) := by rw [hw1]; exact box_cell (Below.refl _ _) rfl
    have b_1 : w1.cell? ⟨w.heap.size, 1, none⟩ = some (.slice ub un uc) := by rw [hw1]; exact box_cell (Below.refl _ _) rfl
    have raw1_b_0 := b_0
    have raw1_b_1 := b_1
    rw [hw1] at raw1_b_0 raw1_b_1
    go_wp2_with fail
    rw [← hw1]
    clear hw1
    clear raw1_b_0 raw1_b_1
    refine (l1In_any _ _ _ _).mono ?_
    rintro e w' ⟨rfl, rfl⟩
    clear hl
    go_wp2_with fail
    go_ret
    exact ⟨ret_bool HE.out.symm, hb1⟩
  by_cases h2 : betw un 1 4 = true
  case neg =>
    replace h2 : betw un 1 4 = false := by simpa using h2
    have HE := Lib.hid (validQ_no2 (q := (i, xs)) (by simp only []; rw [hl]; exact h2))
    go_enter Tryd.func20, Tryd.ntmps20
    obtain ⟨w2, hw2⟩ : ∃ W, W = w.alloc (.cells #[.int .i64 i, .slice ub un uc] 24) := ⟨_, rfl⟩
    have z2 : Below w.heap.size w w2 := by rw [hw2]; exact (Below.refl _ _).alloc (Nat.le_refl _) _
    have s2 : w2.heap.size = w.heap.size + 1 := by rw [hw2]; simp
    have hb2 := on hb0 z2
    have b_0 : w2.cell? ⟨w.heap.size, 0, none⟩ = some (.int .i64 i) := by rw [hw2]; exact box_cell (Below.refl _ _) rfl
    have b_1 : w2.cell? ⟨w.heap.size, 1, none⟩ = some (.slice ub un uc) := by rw [hw2]; exact box_cell (Below.refl _ _) rfl
    have raw2_b_0 := b_0
    have raw2_b_1 := b_1
    rw [hw2] at raw2_b_0 raw2_b_1
    go_wp2_with fail
    rw [← hw2]
    clear hw2
    clear raw2_b_0 raw2_b_1
    refine (l1In_any _ _ _ _).mono ?_
    rintro e w' ⟨rfl, rfl⟩
    go_wp2_with fail
    refine (l1In_any _ _ _ _).mono ?_
    rintro e w' ⟨rfl, rfl⟩
    clear hl
    go_wp2_with fail
    go_ret
    exact ⟨ret_bool HE.out.symm, hb2⟩
  have h3 := h1
  simp only [betw, Bool.and_eq_true, decide_eq_true_eq] at h3
  obtain ⟨n, rfl⟩ := Int.eq_ofNat_of_zero_le (show 0 ≤ i by omega)
  have hn1 : 1 ≤ n ∧ n ≤ 4 := by omega
  obtain ⟨hn1, hn4⟩ := hn1
  clear h3 hi1 hi2
  have HV := Lib.hid (validQ_go (xs := xs) h1 (by rw [hl]; exact h2))
  have H2 := Lib.hid h2
  go_enter Tryd.func20, Tryd.ntmps20
  obtain ⟨w3, hw3⟩ : ∃ W, W = w.alloc (.cells #[.int .i64 n, .slice ub un uc] 24) := ⟨_, rfl⟩
  have z3 : Below w.heap.size w w3 := by rw [hw3]; exact (Below.refl _ _).alloc (Nat.le_refl _) _
  have s3 : w3.heap.size = w.heap.size + 1 := by rw [hw3]; simp
  have hb3 := on hb0 z3
  have b_0 : w3.cell? ⟨w.heap.size, 0, none⟩ = some (.int .i64 n) := by rw [hw3]; exact box_cell (Below.refl _ _) rfl
  have b_1 : w3.cell? ⟨w.heap.size, 1, none⟩ = some (.slice ub un uc) := by rw [hw3]; exact box_cell (Below.refl _ _) rfl
  have raw3_b_0 := b_0
  have raw3_b_1 := b_1
  rw [hw3] at raw3_b_0 raw3_b_1
  go_wp2_with fail
  rw [← hw3]
  clear hw3
  clear raw3_b_0 raw3_b_1
  refine (l1In_any _ _ _ _).mono ?_
  rintro e w' ⟨rfl, rfl⟩
  go_wp2_with fail
  refine (l1In_any _ _ _ _).mono ?_
  rintro e w' ⟨rfl, rfl⟩
  go_wp2_with fail
  clear h1 h2
  go_loopw [3, 4] (fun s k wr => ∃ j m : Nat, j ≤ un ∧ m < 2 ^ n ∧ k = .int .i64 j ∧ s = .int .i64 m ∧ Hid (validQ ((n : Int), xs) = validFrom n m (xs.drop j)) ∧ Below w3.heap.size w3 wr) (fun _ k _ => un - (intOf k).toNat)
  case atStart => exact ⟨0, 0, Nat.zero_le _, Nat.two_pow_pos _, rfl, rfl, HV.out, Below.refl _ _⟩
  case round =>
    obtain ⟨j, m, hj, hm, rfl, rfl, hE, hdr⟩ := hrel
    obtain ⟨wo, rfl⟩ : ∃ W, W = wr := ⟨_, rfl⟩
    have hlc := hdr
    have s4 := hdr.size
    have hb4 := on hb3 hdr
    replace b_0 := (hdr.cell (p := ⟨w.heap.size, 0, none⟩) (by simp only []; omega)).trans b_0
    replace b_1 := (hdr.cell (p := ⟨w.heap.size, 1, none⟩) (by simp only []; omega)).trans b_1
    have t0 := rS_sl g1
    have hm16 := pow_le16 hn4
    by_cases hlt : j < un
    · obtain ⟨b1, o1, cs, x, rfl, hx, hr, hc⟩ := t0.at hlt
      obtain ⟨s, vs⟩ := x
      obtain ⟨vb, vn, vc, rfl, hs, g2⟩ := rA_open hr
      simp only at hs g2
      have i0 := rI_ints g2
      have hvl := i0.len
      have hvs := i0.small
      obtain ⟨hvc, hvc2⟩ := rS_cap g2
      have e_lt : b1 < w.heap.size := cell_lt (hc 0 _ rfl)
      have e_0 : wo.cell? ⟨b1, o1 + j * 2, none⟩ = some (.string s) := (hb4.cell (p := ⟨b1, o1 + j * 2, none⟩) e_lt).trans (by have h9 := hc 0 _ rfl; rw [← Nat.add_assoc] at h9; exact h9)
      have e_1 : wo.cell? ⟨b1, o1 + j * 2 + 1, none⟩ = some (.slice vb vn vc) := (hb4.cell (p := ⟨b1, o1 + j * 2 + 1, none⟩) e_lt).trans (by have h9 := hc 1 _ rfl; rw [← Nat.add_assoc] at h9; exact h9)
      have HA := Lib.hid (hE.out.trans (validFrom_at hx.out))
      clear hc t0 hr hl hx hE i0 HV
      obtain ⟨w5, hw5⟩ : ∃ W, W = wo.alloc (.cells #[.string s, .slice vb vn vc] 43) := ⟨_, rfl⟩
      have z5 : Below wo.heap.size wo w5 := by rw [hw5]; exact (Below.refl _ _).alloc (Nat.le_refl _) _
      have s5 : w5.heap.size = wo.heap.size + 1 := by rw [hw5]; simp
      have hb5 := on hb4 z5
      have old5_b_0 := b_0
      have old5_b_1 := b_1
      have old5_e_0 := e_0
      have old5_e_1 := e_1
      replace b_0 := (z5.cell (p := ⟨w.heap.size, 0, none⟩) (by simp only []; omega)).trans b_0
      replace b_1 := (z5.cell (p := ⟨w.heap.size, 1, none⟩) (by simp only []; omega)).trans b_1
      replace hlc := on hlc z5
      replace e_0 := (z5.cell (p := ⟨b1, o1 + j * 2, none⟩) (by simp only []; omega)).trans e_0
      replace e_1 := (z5.cell (p := ⟨b1, o1 + j * 2 + 1, none⟩) (by simp only []; omega)).trans e_1
      have p_0 : w5.cell? ⟨wo.heap.size, 0, none⟩ = some (.string s) := by rw [hw5]; exact box_cell (Below.refl _ _) rfl
      have p_1 : w5.cell? ⟨wo.heap.size, 1, none⟩ = some (.slice vb vn vc) := by rw [hw5]; exact box_cell (Below.refl _ _) rfl
      have raw5_b_0 := b_0
      have raw5_b_1 := b_1
      have raw5_e_0 := e_0
      have raw5_e_1 := e_1
      have raw5_p_0 := p_0
      have raw5_p_1 := p_1
      rw [hw5] at raw5_b_0 raw5_b_1 raw5_e_0 raw5_e_1 raw5_p_0 raw5_p_1
      by_cases h1 : nameB s = true
      case neg =>
        replace h1 : nameB s = false := by simpa using h1
        have HE := Lib.hid (show validQ ((n : Int), xs) = false by rw [HA.out]; simp [h1])
        go_wp2_with fail
        rw [← hw5]
        clear hw5
        clear old5_b_0 old5_b_1 old5_e_0 old5_e_1 raw5_b_0 raw5_b_1 raw5_e_0 raw5_e_1 raw5_p_0 raw5_p_1
        refine (l4Name_any _ _ hs).mono ?_
        rintro e w' ⟨rfl, rfl⟩
        go_wp2_with fail
        go_ret
        exact ⟨ret_bool HE.out.symm, hb5⟩
      by_cases h2 : betw vn 1 3 = true
      case neg =>
        replace h2 : betw vn 1 3 = false := by simpa using h2
        have HE := Lib.hid (show validQ ((n : Int), xs) = false by rw [HA.out]; simp [hvl, h2])
        go_wp2_with fail
        rw [← hw5]
        clear hw5
        clear old5_b_0 old5_b_1 old5_e_0 old5_e_1 raw5_b_0 raw5_b_1 raw5_e_0 raw5_e_1 raw5_p_0 raw5_p_1
        refine (l4Name_any _ _ hs).mono ?_
        rintro e w' ⟨rfl, rfl⟩
        go_wp2_with fail
        refine (l1In_any _ _ _ _).mono ?_
        rintro e w' ⟨rfl, rfl⟩
        go_wp2_with fail
        go_ret
        exact ⟨ret_bool HE.out.symm, hb5⟩
      have HA2 := Lib.hid (show validQ ((n : Int), xs) = (varsFrom n (vs.take 0) (vs.drop 0) && validFrom n (vbits m (vs.drop 0)) (xs.drop (j + 1))) by rw [HA.out]; simp [h1, hvl, h2])
      clear HA
      go_wp2_with fail
      rw [← hw5]
      clear hw5
      clear old5_b_0 old5_b_1 old5_e_0 old5_e_1 raw5_b_0 raw5_b_1 raw5_e_0 raw5_e_1 raw5_p_0 raw5_p_1
      refine (l4Name_any _ _ hs).mono ?_
      rintro e w' ⟨rfl, rfl⟩
      go_wp2_with fail
      refine (l1In_any _ _ _ _).mono ?_
      rintro e w' ⟨rfl, rfl⟩
      have h3 := h2
      simp only [betw, Bool.and_eq_true, decide_eq_true_eq] at h3
      go_wp2_with fail
      clear h1 h2
      go_loopw [3, 6] (fun s k wr => ∃ i m : Nat, i ≤ vn ∧ m < 2 ^ n ∧ k = .int .i64 i ∧ s = .int .i64 m ∧ Hid (validQ ((n : Int), xs) = (varsFrom n (vs.take i) (vs.drop i) && validFrom n (vbits m (vs.drop i)) (xs.drop (j + 1)))) ∧ Drew w5 wr) (fun _ k _ => vn - (intOf k).toNat)
      case atStart => exact ⟨0, m, Nat.zero_le _, hm, rfl, rfl, HA2.out, Drew.refl _⟩
      case round =>
        obtain ⟨i, m, hi, hm, rfl, rfl, hE, hdr⟩ := hrel
        have hlo := hdr
        replace hdr : Below w5.heap.size w5 wr := hdr.below _
        have s6 := hdr.size
        have hb6 := on hb5 hdr
        replace b_0 := (hdr.cell (p := ⟨w.heap.size, 0, none⟩) (by simp only []; omega)).trans b_0
        replace b_1 := (hdr.cell (p := ⟨w.heap.size, 1, none⟩) (by simp only []; omega)).trans b_1
        replace hlc := on hlc hdr
        replace e_0 := (hdr.cell (p := ⟨b1, o1 + j * 2, none⟩) (by simp only []; omega)).trans e_0
        replace e_1 := (hdr.cell (p := ⟨b1, o1 + j * 2 + 1, none⟩) (by simp only []; omega)).trans e_1
        replace p_0 := (hdr.cell (p := ⟨wo.heap.size, 0, none⟩) (by simp only []; omega)).trans p_0
        replace p_1 := (hdr.cell (p := ⟨wo.heap.size, 1, none⟩) (by simp only []; omega)).trans p_1
        have hm16 := pow_le16 hn4
        have i0 := rI_ints g2
        by_cases hlv : i < vn
        · obtain ⟨b2, o2, v, rfl, hc, hv, hv1, hv2⟩ := i0.get hlv
          have v0_lt : b2 < w.heap.size := cell_lt hc
          have v0 : wr.cell? ⟨b2, o2 + i, none⟩ = some (.int .i64 v) := (hb6.cell (p := ⟨b2, o2 + i, none⟩) v0_lt).trans hc
          clear hc
          by_cases h4 : betw v 0 ((n : Int) - 1) = true
          case neg =>
            replace h4 : betw v 0 ((n : Int) - 1) = false := by simpa using h4
            have HE := Lib.hid (show validQ ((n : Int), xs) = false by rw [hE.out, vars_no (by omega) hv.out (by simp [h4])]; rfl)
            clear i0 hvl
            go_wp2_with fail
            go_quiet ((go_at_call 47; exact quiet_same (l1In_any _ _ _ _)))
            go_wp2_with fail
            go_ret
            exact ⟨ret_bool HE.out.symm, onD hb6 ⟨_, rfl⟩⟩
          have hcall := fun q => l7Has_any (some ⟨b2, o2, none⟩) i vc (vs.take i) v (wr.drewN q) (((i0.takeTo (by omega)).below hb6).drewN q)
          obtain ⟨t, ht⟩ : ∃ t, t = has (vs.take i) v := ⟨_, rfl⟩
          rw [← ht] at hcall
          have HC := Lib.hid hcall
          clear hcall
          have h5 := h4
          simp only [betw, Bool.and_eq_true, decide_eq_true_eq] at h5
          obtain ⟨v, rfl⟩ := Int.eq_ofNat_of_zero_le h5.1
          have hvn : v < n := by omega
          clear h5
          cases t with
          | true =>
            have HE := Lib.hid (show validQ ((n : Int), xs) = false by rw [hE.out, vars_no (by omega) hv.out (by rw [← ht]; simp)]; rfl)
            clear i0 hvl ht
            go_wp2_with fail
            go_quiet ((first | (go_at_call 47; exact quiet_same (l1In_any _ _ _ _)) | (go_at_call 43; exact quiet_same (HC.out _))))
            go_wp2_with fail
            go_ret
            exact ⟨ret_bool HE.out.symm, onD hb6 ⟨_, rfl⟩⟩
          | false =>
            have HE := Lib.hid (hE.out.trans (show _ = (varsFrom n (vs.take (i + 1)) (vs.drop (i + 1)) && validFrom n (vbits (m ||| 2 ^ v) (vs.drop (i + 1))) (xs.drop (j + 1))) by rw [vars_yes (by omega) hv.out h4 ht.symm, vbits_at (by omega) hv.out]))
            have hmo := or_lt hm hvn
            clear i0 hvl ht
            go_wp2_with fail
            go_quiet ((first | (go_at_call 47; exact quiet_same (l1In_any _ _ _ _)) | (go_at_call 43; exact quiet_same (HC.out _))))
            go_wp2_with fail
            go_roundw
            case rel => exact ⟨i + 1, m ||| 2 ^ v, by omega, hmo, by go_num, by show Value.int _ _ = _; first | (rw [or_pow (by omega) (by omega)]) | (rw [← or_pow (m := m) (v := v) (by omega) (by omega)]; rfl), HE.out, hlo.step _⟩
            case measure => simp [intOf]; omega
        · have HE := Lib.hid (show validQ ((n : Int), xs) = validFrom n m (xs.drop (j + 1)) by rw [hE.out, vars_end (by omega), vbits_end (by omega)]; rfl)
          clear i0 hvl
          go_wp2_with fail
          go_roundw
          case rel => exact ⟨j + 1, m, by omega, hm, by go_num, rfl, HE.out, hlc⟩
          case measure => simp [intOf]; omega
    · have HE := Lib.hid (hE.out.trans (validFrom_end (by omega)))
      clear t0 hl hE HV
      go_wp2_with fail
      go_ret
      exact ⟨ret_bool (by rw [HE.out]; exact full_eq (by omega)), hb4⟩

end Go.Proofs.YtpgfkjcekhifiaaDoor
