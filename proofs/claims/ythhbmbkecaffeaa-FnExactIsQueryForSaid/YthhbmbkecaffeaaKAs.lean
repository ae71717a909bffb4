/- Kind As: shape, size, copy, comparison. Written by a program. -/
import Derived.Test.YthhbmbkecaffeaaKA
import Derived.Deep.RegionHeld3
namespace Go.Proofs.Ythhbmbkecaffeaa
open Go.RowKit
set_option linter.unusedVariables false
set_option linter.unusedSimpArgs false
set_option synthInstance.maxSize 2000
set_option synthInstance.maxHeartbeats 400000

def rAs : RS (List DA) := R.slice rA
def oAs : OS (List DA) := O.slice 80 oA
theorem reads_As : Reads oAs rAs := Reads.slice _ reads_A
theorem rAs_form {w : World} {cs : List Value} {xs : List DA} (h : rAs.rep w cs xs) : ∃ b n c, cs = [.slice b n c] := rS_form h
theorem oAs_form1 {lo hi : Nat} {w : World} {v : Value} {xs : List DA} (h : Own oAs lo hi w [v] xs) : ∃ b n c, v = .slice b n c := oS_form1 reads_A h
def bulk_As (xs : List DA) : Nat := xs.length + sumBy bulk_A xs

set_option maxHeartbeats 1000000 in
theorem sz_As (v : Value) (xs : List DA) (left : Int) (w : World) (h : rAs.rep w [v] xs) (h0 : 0 ≤ left) (h1 : left ≤ 1048576) :
    Calls Try.prog 50 #[v, .int .i64 left] w fun e w' => e = .returned (.int .i64 (szR left (bulk_As xs))) ∧ Below w.heap.size w w' := by
  obtain ⟨a, cap, rfl, hn1, hn2, hi⟩ := rS_open h
  clear h
  unfold bulk_As
  have hsm := hi.small
  obtain ⟨n, hlen⟩ : ∃ n, xs.length = n := ⟨_, rfl⟩
  rw [hlen] at hi hsm hn1 ⊢
  by_cases hl : (n : Int) ≤ left
  case neg =>
    have HE := Lib.hid (szR_no (sumBy bulk_A xs) hl)
    clear hi
    go_enter Try.func50, Try.ntmps50
    go_wp2_with fail
    go_ret
    exact ⟨ret_int HE.out.symm, Below.refl _ _⟩
  have HE := Lib.hid (szR_add (b := sumBy bulk_A xs) hl)
  go_enter Try.func50, Try.ntmps50
  go_wp2_with fail
  go_loopw [1, 5] (fun l i wr => ∃ (j : Nat) (q : Int), j ≤ n ∧ i = .int .i64 j ∧ l = .int .i64 q ∧ 0 ≤ q ∧ q ≤ 1048576 ∧ Hid (szR left (n + sumBy bulk_A xs) = szR q (sumBy bulk_A (xs.drop j))) ∧ Below w.heap.size w wr) (fun _ i _ => n - (intOf i).toNat)
  case atStart => exact ⟨0, left - n, Nat.zero_le _, rfl, rfl, by omega, by omega, HE.out, Below.refl _ _⟩
  case round =>
    obtain ⟨j, q, hj, rfl, rfl, q0, q1, hE, hb⟩ := hrel
    clear HE
    by_cases hlt : j < n
    · obtain ⟨b, off, cs, x, rfl, hx, hr, hc⟩ := (hi.below hb).at hlt
      obtain ⟨ub1, un1, uc1, rfl⟩ := rA_form hr
      have c0 : wr.cell? ⟨b, off + j * 2, none⟩ = some (.string x.1) := by have h9 := hc 0 _ rfl; rw [← Nat.add_assoc] at h9; exact h9
      have c1 : wr.cell? ⟨b, off + j * 2 + 1, none⟩ = some (.slice ub1 un1 uc1) := by have h9 := hc 1 _ rfl; rw [← Nat.add_assoc] at h9; exact h9
      clear hc
      have HS := hE.out.trans (congrArg (szR q) (sumBy_drop bulk_A hx.out))
      have hcs := szR_cases q (bulk_A x)
      have hcall := sz_A _ x q wr hr q0 q1
      obtain ⟨p, hp⟩ : ∃ p, p = szR q (bulk_A x) := ⟨_, rfl⟩
      rw [← hp] at hcall hcs
      have HC := Lib.hid hcall
      clear hcall hi
      rcases hcs with ⟨rfl, l⟩ | ⟨hp2, l⟩
      · have HE := Lib.hid (HS.trans (szR_no _ l))
        clear hp HS l hE
        go_wp2_with fail
        refine HC.out.mono ?_
        rintro e w1 ⟨rfl, z1⟩
        go_wp2_with fail
        go_ret
        exact ⟨ret_int HE.out.symm, on hb z1⟩
      · have HE := Lib.hid (HS.trans ((szR_add l).trans (by rw [← hp2])) : szR left (n + sumBy bulk_A xs) = szR p (sumBy bulk_A (xs.drop (j + 1))))
        have p0 : 0 ≤ p := by omega
        have p1 : p ≤ 1048576 := by omega
        clear hp hp2 HS l hE
        go_wp2_with fail
        refine HC.out.mono ?_
        rintro e w1 ⟨rfl, z1⟩
        go_wp2_with fail
        go_roundw
        case rel => exact ⟨j + 1, p, by omega, by go_num, rfl, p0, p1, HE, on hb z1⟩
        case measure => simp [intOf]; omega
    · have HE := Lib.hid (hE.out.trans (by rw [sumBy_end _ (by omega)]; unfold szR; rw [if_pos (by omega)]; simp) : szR left (n + sumBy bulk_A xs) = q)
      clear hi hE
      go_wp2_with fail
      go_ret
      exact ⟨ret_int HE.out.symm, hb⟩

set_option maxHeartbeats 2000000 in
set_option maxRecDepth 100000 in
theorem to_As (v : Value) (xs : List DA) (w : World) (h : rAs.rep w [v] xs) (hn : bulk_As xs ≤ 1048576) :
    Calls Try.prog 53 #[v] w fun e w' => ∃ u, e = .returned u ∧ Own oAs w.heap.size w'.heap.size w' [u] xs ∧ Below w.heap.size w w' := by
  obtain ⟨a, cap, rfl, hn1, hn2, hi⟩ := rS_open h
  clear h
  unfold bulk_As at hn
  obtain ⟨n, hlen⟩ : ∃ n, xs.length = n := ⟨_, rfl⟩
  rw [hlen] at hi hn hn1 ⊢
  have hbk : ∀ (j : Nat) x, xs[j]? = some x → bulk_A x ≤ 1048576 := fun j x hx => by have := sumBy_mem bulk_A hx; omega
  have hn3 : n ≤ 100000000 := by omega
  clear hn
  go_enter Try.func53, Try.ntmps53
  go_wp2_with (at_make; refine wpList_mkS (size := 2) (bytes := 40) (z := .agg #[.string ⟨#[]⟩, .slice none 0 0]) rfl rfl rfl (by decide) (by decide) oA xs _ _ n hn3 rfl rfl rfl rfl ?_; intro w1 hp1 hb1 hz1)
  go_wp2_with fail
  go_loopw [4] (fun k wr => ∃ j : Nat, j ≤ n ∧ k = .int .i64 j ∧ Part 80 oA [.string ⟨#[]⟩, .slice none 0 0] w.heap.size wr w.heap.size n j xs ∧ Below w.heap.size w wr) (fun k _ => n - (intOf k).toNat)
  case atStart => exact ⟨0, Nat.zero_le _, rfl, hp1, hb1⟩
  case round =>
    obtain ⟨j, hj, rfl, hp, hb⟩ := hrel
    clear hp1 hb1
    by_cases hlt : j < n
    · obtain ⟨b, off, cs, x, rfl, hx, hr, hc⟩ := (hi.below hb).at hlt
      obtain ⟨ub1, un1, uc1, rfl⟩ := rA_form hr
      have c0 : wr.cell? ⟨b, off + j * 2, none⟩ = some (.string x.1) := by have h9 := hc 0 _ rfl; rw [← Nat.add_assoc] at h9; exact h9
      have c1 : wr.cell? ⟨b, off + j * 2 + 1, none⟩ = some (.slice ub1 un1 uc1) := by have h9 := hc 1 _ rfl; rw [← Nat.add_assoc] at h9; exact h9
      clear hc
      have hg : w.heap.size < wr.heap.size := by obtain ⟨_, _, _, _, _, _, _, h9⟩ := hp; exact h9
      have HC := Lib.hid (to_A _ x wr hr (hbk j x hx.out))
      have HI := Lib.hid hi
      go_wp2_with fail
      refine HC.out.mono ?_
      rintro e w1 ⟨d, rfl, ho, z1⟩
      obtain ⟨db1, dn1, dc1, rfl⟩ := oA_form ho
      have s1 := z1.size
      have hp1 : Part 80 oA [.string ⟨#[]⟩, .slice none 0 0] w.heap.size w1 w.heap.size n j xs := hp.below z1 (Nat.le_refl _)
      obtain ⟨⟨e0, f0⟩, g0⟩ := hp1.cell rfl hlt (by omega) 0 (by decide)
      replace f0 : w1.cell? ⟨w.heap.size, j * 2, none⟩ = some e0 := f0
      replace g0 : w1.frozen? ⟨w.heap.size, j * 2, none⟩ = false := g0
      obtain ⟨⟨e1, f1⟩, g1⟩ := hp1.cell rfl hlt (by omega) 1 (by decide)
      replace f1 : w1.cell? ⟨w.heap.size, j * 2 + 1, none⟩ = some e1 := f1
      replace g1 : w1.frozen? ⟨w.heap.size, j * 2 + 1, none⟩ = false := g1
      have HP := Lib.hid (hp1.step (cs := [.string x.1, .slice db1 dn1 dc1]) rfl hlt hx.out ho hg ⟨wr, hp, Nat.le_refl _, fun p hp => z1.block p hp⟩ (Nat.le_refl _) (by omega))
      have hb1 := on hb z1
      clear ho hp hp1
      go_wp2_with fail
      go_roundw
      case rel => exact ⟨j + 1, by omega, by go_num, HP.out, ((hb1.setCell (Nat.le_refl _) _).setCell (Nat.le_refl _) _)⟩
      case measure => simp [intOf]; omega
    · have hjn : j = n := by omega
      subst hjn
      have HO := Lib.hid (hp.done hlen (by omega))
      clear hp hi
      go_wp2_with fail
      go_ret
      exact ⟨_, rfl, HO.out, hb⟩

set_option maxHeartbeats 2000000 in
theorem eq_As (u v : Value) (xs ys : List DA) (w : World) (h : rAs.rep w [u] xs) (h' : rAs.rep w [v] ys) :
    Calls Try.prog 57 #[u, v] w fun e w' => e = .returned (.bool (decide (xs = ys))) ∧ Below w.heap.size w w' := by
  obtain ⟨a, cap, rfl, _, _, hi⟩ := rS_open h
  obtain ⟨a', cap', rfl, _, _, hi'⟩ := rS_open h'
  clear h h'
  have hn := hi.small
  have hn' := hi'.small
  obtain ⟨n, hl⟩ : ∃ n, xs.length = n := ⟨_, rfl⟩
  obtain ⟨m, hl'⟩ : ∃ n, ys.length = n := ⟨_, rfl⟩
  rw [hl] at hi hn ⊢
  rw [hl'] at hi' hn' ⊢
  by_cases hnm : n = m
  case neg =>
    have HE := Lib.hid (show decide (xs = ys) = false by simp only [decide_eq_false_iff_not]; intro e; subst e; omega)
    have hne : ((n : Int) != (m : Int)) = true := by rw [bne_iff_ne]; omega
    clear hl hl' hi hi'
    go_enter Try.func57, Try.ntmps57
    go_wp2_with fail
    go_ret
    exact ⟨ret_bool HE.out.symm, Below.refl _ _⟩
  subst hnm
  go_enter Try.func57, Try.ntmps57
  go_wp2_with fail
  go_loopw [5] (fun k wr => ∃ j : Nat, j ≤ n ∧ k = .int .i64 j ∧ Hid (xs.take j = ys.take j) ∧ Below w.heap.size w wr) (fun k _ => n - (intOf k).toNat)
  case atStart => exact ⟨0, Nat.zero_le _, rfl, rfl, Below.refl _ _⟩
  case round =>
    obtain ⟨j, hj, rfl, hE, hb⟩ := hrel
    by_cases hlt : j < n
    · obtain ⟨b, off, cs, x, rfl, hx, hr, hc⟩ := (hi.below hb).at hlt
      obtain ⟨b', off', ds, y, rfl, hy, hr', hd⟩ := (hi'.below hb).at hlt
      obtain ⟨ub1, un1, uc1, rfl⟩ := rA_form hr
      obtain ⟨vb1, vn1, vc1, rfl⟩ := rA_form hr'
      have c0 : wr.cell? ⟨b, off + j * 2, none⟩ = some (.string x.1) := by have h9 := hc 0 _ rfl; rw [← Nat.add_assoc] at h9; exact h9
      have c1 : wr.cell? ⟨b, off + j * 2 + 1, none⟩ = some (.slice ub1 un1 uc1) := by have h9 := hc 1 _ rfl; rw [← Nat.add_assoc] at h9; exact h9
      have d0 : wr.cell? ⟨b', off' + j * 2, none⟩ = some (.string y.1) := by have h9 := hd 0 _ rfl; rw [← Nat.add_assoc] at h9; exact h9
      have d1 : wr.cell? ⟨b', off' + j * 2 + 1, none⟩ = some (.slice vb1 vn1 vc1) := by have h9 := hd 1 _ rfl; rw [← Nat.add_assoc] at h9; exact h9
      have hcall := fun (W : World) (hW : Below wr.heap.size wr W) => eq_A _ _ x y W (rA.mono hr hW) (rA.mono hr' hW)
      obtain ⟨t, ht⟩ : ∃ t, t = decide (x = y) := ⟨_, rfl⟩
      rw [← ht] at hcall
      have HC := Lib.hid hcall
      clear hcall hi hi' hr hr' hc hd
      have HT : Hid (if t = true then xs.take (j + 1) = ys.take (j + 1) else decide (xs = ys) = false) := by
        cases t
        · simp only [Bool.false_eq_true, if_false]
          have hxy : x ≠ y := by simpa using ht.symm
          simp only [Hid, Bool.false_eq_true, if_false, decide_eq_false_iff_not]; intro e; subst e; exact hxy (Option.some.inj (hx.out.symm.trans hy.out))
        · have hxy : x = y := by simpa using ht.symm
          simp only [Hid, if_true]; rw [take_snoc' xs j x hx.out, take_snoc' ys j y hy.out, hE.out, hxy]
      clear ht hx hy hE
      have lb : b < wr.heap.size := cell_lt c0
      have lb' : b' < wr.heap.size := cell_lt d0
      go_wp2_with fail
      go_region_held3 (fun W => W.cell? ⟨b, off + j * 2, none⟩ = some (.string x.1) ∧ W.cell? ⟨b, off + j * 2 + 1, none⟩ = some (.slice ub1 un1 uc1) ∧ W.cell? ⟨b', off' + j * 2, none⟩ = some (.string y.1) ∧ W.cell? ⟨b', off' + j * 2 + 1, none⟩ = some (.slice vb1 vn1 vc1)) (first | exact ⟨c0, c1, d0, d1⟩ | assumption) ((go_at_call 99; refine (HC.out _ (Below.refl _ _).drew).mono ?_; rintro e w1 ⟨rfl, z1⟩; replace z1 : Below wr.heap.size wr w1 := (Below.refl _ _).drew.trans z1; have hS0 := (⟨(z1.cell (p := ⟨b, off + j * 2, none⟩) (by simp only []; omega)).trans c0, (z1.cell (p := ⟨b, off + j * 2 + 1, none⟩) (by simp only []; omega)).trans c1, (z1.cell (p := ⟨b', off' + j * 2, none⟩) (by simp only []; omega)).trans d0, (z1.cell (p := ⟨b', off' + j * 2 + 1, none⟩) (by simp only []; omega)).trans d1⟩ : (fun W => W.cell? ⟨b, off + j * 2, none⟩ = some (.string x.1) ∧ W.cell? ⟨b, off + j * 2 + 1, none⟩ = some (.slice ub1 un1 uc1) ∧ W.cell? ⟨b', off' + j * 2, none⟩ = some (.string y.1) ∧ W.cell? ⟨b', off' + j * 2 + 1, none⟩ = some (.slice vb1 vn1 vc1)) w1)))
      replace z1 : Below wr.heap.size wr w1 := z1
      have z2 := on hb z1
      cases t
      · have HE : Hid (decide (xs = ys) = false) := by simpa [Hid] using HT.out
        go_wp2_with fail
        go_ret
        exact ⟨ret_bool HE.out.symm, z2⟩
      · have HE : Hid (xs.take (j + 1) = ys.take (j + 1)) := by simpa [Hid] using HT.out
        go_wp2_with fail
        go_roundw
        case rel => exact ⟨j + 1, by omega, by go_num, HE.out, z2⟩
        case measure => simp [intOf]; omega
    · have HE := Lib.hid (show decide (xs = ys) = true by
        have e := hE.out
        rw [List.take_of_length_le (by omega), List.take_of_length_le (by omega)] at e
        simp [e])
      clear hi hi' hl hl'
      go_wp2_with fail
      go_ret
      exact ⟨ret_bool HE.out.symm, hb⟩

end Go.Proofs.Ythhbmbkecaffeaa
