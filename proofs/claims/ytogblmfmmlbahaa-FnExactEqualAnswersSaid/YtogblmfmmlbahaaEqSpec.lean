/- Contracts: data compared by the reference. -/
import Derived.Test.YtogblmfmmlbahaaKAn
import Derived.Test.YtogblmfmmlbahaaKQ
import Derived.Test.YtogblmfmmlbahaaCmp
namespace Go.Proofs.Ytogblmfmmlbahaa
open Go.RowKit
set_option linter.unusedVariables false
set_option linter.unusedSimpArgs false

set_option maxHeartbeats 1000000 in
theorem equalAn_spec (cs ds : List Value) (x y : DAn) (w : World) (h : rAn.rep w cs x) (h' : rAn.rep w ds y) :
    Calls Try.prog 20 #[.agg cs.toArray, .agg ds.toArray] w fun e w' => e = .returned (.bool (decide (x = y))) ∧ Below w.heap.size w w' := by
  obtain ⟨ub0, un0, uc0, ub1, un1, uc1, rfl, g0, g1⟩ := rAn_open h
  obtain ⟨vb0, vn0, vc0, vb1, vn1, vc1, rfl, k0, k1⟩ := rAn_open h'
  clear h h'
  obtain ⟨xs, xss⟩ := x
  obtain ⟨ys, yss⟩ := y
  simp only at g0 g1 k0 k1
  have hb1 : Below w.heap.size w ((w.alloc (.cells #[.slice ub0 un0 uc0, .slice ub1 un1 uc1] 31)).alloc (.cells #[.slice vb0 vn0 vc0, .slice vb1 vn1 vc1] 31)) := ((Below.refl _ _).alloc (Nat.le_refl _) _).alloc (by simp) _
  go_enter Try.func20, Try.ntmps20
  obtain ⟨w1, hw1⟩ : ∃ W, W = (w.alloc (.cells #[.slice ub0 un0 uc0, .slice ub1 un1 uc1] 31)).alloc (.cells #[.slice vb0 vn0 vc0, .slice vb1 vn1 vc1] 31) := ⟨_, rfl⟩
  rw [← hw1] at hb1
  have c0 : w1.cell? ⟨w.heap.size, 0, none⟩ = some (.slice ub0 un0 uc0) := by rw [hw1]; simp [go_sem, World.cell?_alloc_past]
  have c1 : w1.cell? ⟨w.heap.size, 1, none⟩ = some (.slice ub1 un1 uc1) := by rw [hw1]; simp [go_sem, World.cell?_alloc_past]
  have d0 : w1.cell? ⟨w.heap.size + 1, 0, none⟩ = some (.slice vb0 vn0 vc0) := by rw [hw1]; simp [go_sem, World.cell?_alloc_past]
  have d1 : w1.cell? ⟨w.heap.size + 1, 1, none⟩ = some (.slice vb1 vn1 vc1) := by rw [hw1]; simp [go_sem, World.cell?_alloc_past]
  have i0 := rI_ints (rI.mono g0 hb1)
  have j0 := rI_ints (rI.mono k0 hb1)
  have s0 := rS_sl (rII.mono g1 hb1)
  have t0 := rS_sl (rII.mono k1 hb1)
  clear g0 g1 k0 k1
  have hl := s0.len
  have hl' := t0.len
  have hn := s0.small
  have hn' := t0.small
  go_wp2_with fail
  rw [← hw1]
  clear hw1
  refine (cmp_spec _ _ _ _ _ _ _ _ _ i0 j0).mono ?_
  rintro e w2 ⟨rfl, z2⟩
  clear i0 j0
  replace c0 := (z2.cell _).trans c0
  replace c1 := (z2.cell _).trans c1
  replace d0 := (z2.cell _).trans d0
  replace d1 := (z2.cell _).trans d1
  by_cases e0 : xs = ys
  case neg =>
    have HE := Lib.hid (show decide ((xs, xss) = (ys, yss)) = false by simp [e0])
    have hne : (cmpRows xs ys != 0) = true := bne_iff_ne.2 (fun h => e0 ((cmpRows_zero _ _).1 h))
    clear e0 s0 t0 hl hl'
    go_wp2_with fail
    go_ret
    exact ⟨ret_bool HE.out.symm, onD hb1 z2⟩
  rw [(cmpRows_zero xs ys).2 e0]
  by_cases hnm : un1 = vn1
  case neg =>
    have HE := Lib.hid (show decide ((xs, xss) = (ys, yss)) = false by
      simp only [decide_eq_false_iff_not, Prod.mk.injEq]; rintro ⟨_, rfl⟩; omega)
    have hne : ((un1 : Int) != (vn1 : Int)) = true := by rw [bne_iff_ne]; omega
    clear e0 s0 t0 hl hl'
    go_wp2_with fail
    go_ret
    exact ⟨ret_bool HE.out.symm, onD hb1 z2⟩
  subst hnm
  have E0 := Lib.hid e0
  clear e0
  replace s0 := s0.drew z2
  replace t0 := t0.drew z2
  have hb2 := onD hb1 z2
  go_wp2_with fail
  go_loopw [5] (fun i wr => ∃ j : Nat, j ≤ un1 ∧ i = .int .i64 j ∧ Hid (xss.take j = yss.take j) ∧ Drew w2 wr) (fun i _ => un1 - (intOf i).toNat)
  case atStart => exact ⟨0, Nat.zero_le _, rfl, rfl, Drew.refl _⟩
  case round =>
    obtain ⟨j, hj, rfl, hE, hdr⟩ := hrel
    replace s0 := s0.drew hdr
    replace t0 := t0.drew hdr
    replace c1 := (hdr.cell _).trans c1
    replace d1 := (hdr.cell _).trans d1
    replace hb2 := onD hb2 hdr
    clear c0 d0
    by_cases hlt : j < un1
    · obtain ⟨b1, o1, r1, m1, q1, x, rfl, hc, hx, hi, _⟩ := s0.row hlt
      obtain ⟨b2, o2, r2, m2, q2, y, rfl, hc', hy, hi', _⟩ := t0.row hlt
      have hcall := fun q => cmp_spec r1 r2 m1 m2 q1 q2 x y (wr.drewN q) (hi.drewN q) (hi'.drewN q)
      by_cases hxy : x = y
      · have HE := Lib.hid (show xss.take (j + 1) = yss.take (j + 1) by rw [take_snoc' xss j x hx.out, take_snoc' yss j y hy.out, hE.out, hxy])
        rw [(cmpRows_zero x y).2 hxy] at hcall
        have HC := Lib.hid hcall
        clear s0 t0 hl hl' hi hi' hxy hcall
        go_wp2_with fail
        go_quiet ((go_at_call 61; exact quiet_drew (HC.out _)))
        go_wp2_with fail
        go_roundw
        case rel => exact ⟨j + 1, by omega, by go_num, HE.out, hdr.step _⟩
        case measure => simp [intOf]; omega
      · have HE := Lib.hid (show decide ((xs, xss) = (ys, yss)) = false by
          simp only [decide_eq_false_iff_not, Prod.mk.injEq]; rintro ⟨_, e⟩; subst e; exact hxy (Option.some.inj (hx.out.symm.trans hy.out)))
        obtain ⟨p, hp⟩ : ∃ p, p = cmpRows x y := ⟨_, rfl⟩
        rw [← hp] at hcall
        have hne : (p != 0) = true := bne_iff_ne.2 (fun h => hxy ((cmpRows_zero _ _).1 (hp.symm.trans h)))
        have HC := Lib.hid hcall
        clear s0 t0 hl hl' hi hi' hxy hcall hp
        go_wp2_with fail
        go_quiet ((go_at_call 61; exact quiet_drew (HC.out _)))
        go_wp2_with fail
        go_ret
        exact ⟨ret_bool HE.out.symm, onD hb2 ⟨_, rfl⟩⟩
    · have HE := Lib.hid (show decide ((xs, xss) = (ys, yss)) = true by
        have e := hE.out
        rw [List.take_of_length_le (by omega), List.take_of_length_le (by omega)] at e
        simp [e, E0.out])
      clear s0 t0 hl hl'
      go_wp2_with fail
      go_ret
      exact ⟨ret_bool HE.out.symm, hb2⟩

end Go.Proofs.Ytogblmfmmlbahaa
