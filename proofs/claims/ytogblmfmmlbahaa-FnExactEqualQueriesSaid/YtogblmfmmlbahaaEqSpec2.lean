/- Contracts: queries compared by the reference. -/
import Derived.Test.YtogblmfmmlbahaaKQ
import Derived.Test.YtogblmfmmlbahaaCmp
namespace Go.Proofs.Ytogblmfmmlbahaa
open Go.RowKit
set_option linter.unusedVariables false
set_option linter.unusedSimpArgs false

set_option maxHeartbeats 2000000 in
theorem equalQ_spec (cs ds : List Value) (x y : DQ) (w : World) (h : rQ.rep w cs x) (h' : rQ.rep w ds y) :
    Calls Try.prog 25 #[.agg cs.toArray, .agg ds.toArray] w fun e w' => e = .returned (.bool (decide (x = y))) ∧ Below w.heap.size w w' := by
  obtain ⟨ub1, un1, uc1, rfl, g0, g1⟩ := rQ_open h
  obtain ⟨vb1, vn1, vc1, rfl, k0, k1⟩ := rQ_open h'
  clear h h'
  obtain ⟨xs, xss⟩ := x
  obtain ⟨ys, yss⟩ := y
  simp only at g0 g1 k0 k1
  have hb1 : Below w.heap.size w ((w.alloc (.cells #[.int .i64 xs, .slice ub1 un1 uc1] 41)).alloc (.cells #[.int .i64 ys, .slice vb1 vn1 vc1] 41)) := ((Below.refl _ _).alloc (Nat.le_refl _) _).alloc (by simp) _
  go_enter Try.func25, Try.ntmps25
  obtain ⟨w1, hw1⟩ : ∃ W, W = (w.alloc (.cells #[.int .i64 xs, .slice ub1 un1 uc1] 41)).alloc (.cells #[.int .i64 ys, .slice vb1 vn1 vc1] 41) := ⟨_, rfl⟩
  rw [← hw1] at hb1
  have c0 : w1.cell? ⟨w.heap.size, 0, none⟩ = some (.int .i64 xs) := by rw [hw1]; simp [go_sem, World.cell?_alloc_past]
  have c1 : w1.cell? ⟨w.heap.size, 1, none⟩ = some (.slice ub1 un1 uc1) := by rw [hw1]; simp [go_sem, World.cell?_alloc_past]
  have d0 : w1.cell? ⟨w.heap.size + 1, 0, none⟩ = some (.int .i64 ys) := by rw [hw1]; simp [go_sem, World.cell?_alloc_past]
  have d1 : w1.cell? ⟨w.heap.size + 1, 1, none⟩ = some (.slice vb1 vn1 vc1) := by rw [hw1]; simp [go_sem, World.cell?_alloc_past]
  have s0 := rS_sl (rAs.mono g1 hb1)
  have t0 := rS_sl (rAs.mono k1 hb1)
  clear g0 g1 k0 k1
  have hl := s0.len
  have hl' := t0.len
  have hn := s0.small
  have hn' := t0.small
  by_cases e0 : xs = ys
  case neg =>
    have HE := Lib.hid (show decide ((xs, xss) = (ys, yss)) = false by simp [e0])
    have hne : (xs != ys) = true := bne_iff_ne.2 e0
    clear e0 s0 t0 hl hl'
    go_wp2_with fail
    go_ret
    exact ⟨ret_bool HE.out.symm, by rw [hw1] at hb1; exact hb1⟩
  have hq : (xs != ys) = false := by rw [e0]; simp
  have E0 := Lib.hid e0
  clear e0
  by_cases hnm : un1 = vn1
  case neg =>
    have HE := Lib.hid (show decide ((xs, xss) = (ys, yss)) = false by
      simp only [decide_eq_false_iff_not, Prod.mk.injEq]; rintro ⟨_, rfl⟩; omega)
    have hne : ((un1 : Int) != (vn1 : Int)) = true := by rw [bne_iff_ne]; omega
    clear s0 t0 hl hl'
    go_wp2_with fail
    go_ret
    exact ⟨ret_bool HE.out.symm, by rw [hw1] at hb1; exact hb1⟩
  subst hnm
  go_wp2_with fail
  rw [← hw1]
  clear hw1 hq
  go_loopw [5] (fun i wr => ∃ j : Nat, j ≤ un1 ∧ i = .int .i64 j ∧ Hid (xss.take j = yss.take j) ∧ Drew w1 wr) (fun i _ => un1 - (intOf i).toNat)
  case atStart => exact ⟨0, Nat.zero_le _, rfl, rfl, Drew.refl _⟩
  case round =>
    obtain ⟨j, hj, rfl, hE, hdr⟩ := hrel
    replace s0 := s0.drew hdr
    replace t0 := t0.drew hdr
    replace c1 := (hdr.cell _).trans c1
    replace d1 := (hdr.cell _).trans d1
    replace hb1 := onD hb1 hdr
    clear c0 d0
    by_cases hlt : j < un1
    · obtain ⟨b1, o1, cs, x, rfl, hx, hr, hc⟩ := s0.at hlt
      obtain ⟨b2, o2, ds, y, rfl, hy, hr', hd⟩ := t0.at hlt
      obtain ⟨r1, m1, q1, rfl, _, hi⟩ := rA_open hr
      obtain ⟨r2, m2, q2, rfl, _, hi'⟩ := rA_open hr'
      replace hi := rI_ints hi
      replace hi' := rI_ints hi'
      have e0 : wr.cell? ⟨b1, o1 + j * 2, none⟩ = some (.string x.1) := by have h9 := hc 0 _ rfl; rw [← Nat.add_assoc] at h9; exact h9
      have e1 : wr.cell? ⟨b1, o1 + j * 2 + 1, none⟩ = some (.slice r1 m1 q1) := by have h9 := hc 1 _ rfl; rw [← Nat.add_assoc] at h9; exact h9
      have f0 : wr.cell? ⟨b2, o2 + j * 2, none⟩ = some (.string y.1) := by have h9 := hd 0 _ rfl; rw [← Nat.add_assoc] at h9; exact h9
      have f1 : wr.cell? ⟨b2, o2 + j * 2 + 1, none⟩ = some (.slice r2 m2 q2) := by have h9 := hd 1 _ rfl; rw [← Nat.add_assoc] at h9; exact h9
      have hcall := fun q => cmp_spec r1 r2 m1 m2 q1 q2 x.2 y.2 (wr.drewN q) (hi.drewN q) (hi'.drewN q)
      clear hc hd hr hr' hi hi' s0 t0
      by_cases hs : x.1 = y.1
      case neg =>
        have HE := Lib.hid (show decide ((xs, xss) = (ys, yss)) = false by
          simp only [decide_eq_false_iff_not, Prod.mk.injEq]; rintro ⟨_, e⟩; subst e; exact hs (congrArg Prod.fst (Option.some.inj (hx.out.symm.trans hy.out))))
        have hne := bytes_ne hs
        clear hcall hl hl' hs hx hy
        go_wp2_with fail
        go_quiet (fail)
        go_wp2_with fail
        go_ret
        exact ⟨ret_bool HE.out.symm, onD hb1 ⟨_, rfl⟩⟩
      have hse : (x.1.toList == y.1.toList) = true := by rw [hs]; simp
      by_cases hv : x.2 = y.2
      · have hxy : x = y := Prod.ext hs hv
        have HE := Lib.hid (show xss.take (j + 1) = yss.take (j + 1) by rw [take_snoc' xss j x hx.out, take_snoc' yss j y hy.out, hE.out, hxy])
        rw [(cmpRows_zero x.2 y.2).2 hv] at hcall
        have HC := Lib.hid hcall
        clear hl hl' hxy hcall hv hs hx hy
        go_wp2_with fail
        go_quiet ((go_at_call 61; exact quiet_drew (HC.out _)))
        go_wp2_with fail
        go_roundw
        case rel => exact ⟨j + 1, by omega, by go_num, HE.out, hdr.step _⟩
        case measure => simp [intOf]; omega
      · have HE := Lib.hid (show decide ((xs, xss) = (ys, yss)) = false by
          simp only [decide_eq_false_iff_not, Prod.mk.injEq]; rintro ⟨_, e⟩; subst e; exact hv (congrArg Prod.snd (Option.some.inj (hx.out.symm.trans hy.out))))
        obtain ⟨p, hp⟩ : ∃ p, p = cmpRows x.2 y.2 := ⟨_, rfl⟩
        rw [← hp] at hcall
        have hne : (p != 0) = true := bne_iff_ne.2 (fun h => hv ((cmpRows_zero _ _).1 (hp.symm.trans h)))
        have HC := Lib.hid hcall
        clear hl hl' hv hs hcall hp hx hy
        go_wp2_with fail
        go_quiet ((go_at_call 61; exact quiet_drew (HC.out _)))
        go_wp2_with fail
        go_ret
        exact ⟨ret_bool HE.out.symm, onD hb1 ⟨_, rfl⟩⟩
    · have HE := Lib.hid (show decide ((xs, xss) = (ys, yss)) = true by
        have e := hE.out
        rw [List.take_of_length_le (by omega), List.take_of_length_le (by omega)] at e
        simp [e, E0.out])
      clear s0 t0 hl hl'
      go_wp2_with fail
      go_ret
      exact ⟨ret_bool HE.out.symm, hb1⟩

end Go.Proofs.Ytogblmfmmlbahaa
