/- Texts joined for one claim: KDl, ODp, ODl, MDl, Sel, CloP, CloI, CloI2, CloS, CloA, LColumnClosure. -/
import Derived.Test.YtbkoddikfpkocaaQe446e3176f
import Derived.Deep.RegionHeld3

/- Kind Dl: shape, size, copy, comparison. Written by a program. -/
namespace Go.Proofs.Ytbkoddikfpkocaa
open Go.RowKit
set_option linter.unusedVariables false
set_option linter.unusedSimpArgs false
set_option synthInstance.maxSize 2000
set_option synthInstance.maxHeartbeats 400000

def rDl : RS (List DDp) := R.slice rDp
def oDl : OS (List DDp) := O.slice 125 oDp
theorem reads_Dl : Reads oDl rDl := Reads.slice _ reads_Dp
theorem rDl_form {w : World} {cs : List Value} {xs : List DDp} (h : rDl.rep w cs xs) : ∃ b n c, cs = [.slice b n c] := rS_form h
theorem oDl_form1 {lo hi : Nat} {w : World} {v : Value} {xs : List DDp} (h : Own oDl lo hi w [v] xs) : ∃ b n c, v = .slice b n c := oS_form1 reads_Dp h
def bulk_Dl (xs : List DDp) : Nat := xs.length + sumBy bulk_Dp xs

set_option maxHeartbeats 1000000 in
theorem sz_Dl (v : Value) (xs : List DDp) (left : Int) (w : World) (h : rDl.rep w [v] xs) (h0 : 0 ≤ left) (h1 : left ≤ 1048576) :
    Calls Try.prog 50 #[v, .int .i64 left] w fun e w' => e = .returned (.int .i64 (szR left (bulk_Dl xs))) ∧ Below w.heap.size w w' := by
  obtain ⟨a, cap, rfl, hn1, hn2, hi⟩ := rS_open h
  clear h
  unfold bulk_Dl
  have hsm := hi.small
  obtain ⟨n, hlen⟩ : ∃ n, xs.length = n := ⟨_, rfl⟩
  rw [hlen] at hi hsm hn1 ⊢
  by_cases hl : (n : Int) ≤ left
  case neg =>
    have HE := Lib.hid (szR_no (sumBy bulk_Dp xs) hl)
    clear hi
    go_enter Try.func50, Try.ntmps50
    go_wp2_with fail
    go_ret
    exact ⟨ret_int HE.out.symm, Below.refl _ _⟩
  have HE := Lib.hid (szR_add (b := sumBy bulk_Dp xs) hl)
  go_enter Try.func50, Try.ntmps50
  go_wp2_with fail
  go_loopw [1, 5] (fun l i wr => ∃ (j : Nat) (q : Int), j ≤ n ∧ i = .int .i64 j ∧ l = .int .i64 q ∧ 0 ≤ q ∧ q ≤ 1048576 ∧ Hid (szR left (n + sumBy bulk_Dp xs) = szR q (sumBy bulk_Dp (xs.drop j))) ∧ Below w.heap.size w wr) (fun _ i _ => n - (intOf i).toNat)
  case atStart => exact ⟨0, left - n, Nat.zero_le _, rfl, rfl, by omega, by omega, HE.out, Below.refl _ _⟩
  case round =>
    obtain ⟨j, q, hj, rfl, rfl, q0, q1, hE, hb⟩ := hrel
    clear HE
    by_cases hlt : j < n
    · obtain ⟨b, off, cs, x, rfl, hx, hr, hc⟩ := (hi.below hb).at hlt
      obtain ⟨ub1, un1, uc1, rfl⟩ := rDp_form hr
      have c0 : wr.cell? ⟨b, off + j * 3, none⟩ = some (.string x.1) := by have h9 := hc 0 _ rfl; rw [← Nat.add_assoc] at h9; exact h9
      have c1 : wr.cell? ⟨b, off + j * 3 + 1, none⟩ = some (.slice ub1 un1 uc1) := by have h9 := hc 1 _ rfl; rw [← Nat.add_assoc] at h9; exact h9
      have c2 : wr.cell? ⟨b, off + j * 3 + 2, none⟩ = some (.int .i64 x.2.2) := by have h9 := hc 2 _ rfl; rw [← Nat.add_assoc] at h9; exact h9
      clear hc
      have HS := hE.out.trans (congrArg (szR q) (sumBy_drop bulk_Dp hx.out))
      have hcs := szR_cases q (bulk_Dp x)
      have hcall := sz_Dp _ x q wr hr q0 q1
      obtain ⟨p, hp⟩ : ∃ p, p = szR q (bulk_Dp x) := ⟨_, rfl⟩
      rw [← hp] at hcall hcs
      have HC := Lib.hid hcall
      clear hcall hi
      rcases hcs with ⟨rfl, l⟩ | ⟨hp2, l⟩
      · have HE := Lib.hid (HS.trans (szR_no _ l))
        clear hp HS l hE
        go_wp2_with fail
        refine HC.out.mono ?_
        rintro e w1 ⟨rfl, z1⟩
        go_wp2_with fail
        go_ret
        exact ⟨ret_int HE.out.symm, on hb z1⟩
      · have HE := Lib.hid (HS.trans ((szR_add l).trans (by rw [← hp2])) : szR left (n + sumBy bulk_Dp xs) = szR p (sumBy bulk_Dp (xs.drop (j + 1))))
        have p0 : 0 ≤ p := by omega
        have p1 : p ≤ 1048576 := by omega
        clear hp hp2 HS l hE
        go_wp2_with fail
        refine HC.out.mono ?_
        rintro e w1 ⟨rfl, z1⟩
        go_wp2_with fail
        go_roundw
        case rel => exact ⟨j + 1, p, by omega, by go_num, rfl, p0, p1, HE, on hb z1⟩
        case measure => simp [intOf]; omega
    · have HE := Lib.hid (hE.out.trans (by rw [sumBy_end _ (by omega)]; unfold szR; rw [if_pos (by omega)]; simp) : szR left (n + sumBy bulk_Dp xs) = q)
      clear hi hE
      go_wp2_with fail
      go_ret
      exact ⟨ret_int HE.out.symm, hb⟩

set_option maxHeartbeats 2000000 in
set_option maxRecDepth 100000 in
theorem to_Dl (v : Value) (xs : List DDp) (w : World) (h : rDl.rep w [v] xs) (hn : bulk_Dl xs ≤ 1048576) :
    Calls Try.prog 52 #[v] w fun e w' => ∃ u, e = .returned u ∧ Own oDl w.heap.size w'.heap.size w' [u] xs ∧ Below w.heap.size w w' := by
  obtain ⟨a, cap, rfl, hn1, hn2, hi⟩ := rS_open h
  clear h
  unfold bulk_Dl at hn
  obtain ⟨n, hlen⟩ : ∃ n, xs.length = n := ⟨_, rfl⟩
  rw [hlen] at hi hn hn1 ⊢
  have hbk : ∀ (j : Nat) x, xs[j]? = some x → bulk_Dp x ≤ 1048576 := fun j x hx => by have := sumBy_mem bulk_Dp hx; omega
  have hn3 : n ≤ 100000000 := by omega
  clear hn
  go_enter Try.func52, Try.ntmps52
  go_wp2_with (at_make; refine wpList_mkS (size := 3) (bytes := 48) (z := .agg #[.string ⟨#[]⟩, .slice none 0 0, .int .i64 0]) rfl rfl rfl (by decide) (by decide) oDp xs _ _ n hn3 rfl rfl rfl rfl ?_; intro w1 hp1 hb1 hz1)
  go_wp2_with fail
  go_loopw [4] (fun k wr => ∃ j : Nat, j ≤ n ∧ k = .int .i64 j ∧ Part 125 oDp [.string ⟨#[]⟩, .slice none 0 0, .int .i64 0] w.heap.size wr w.heap.size n j xs ∧ Below w.heap.size w wr) (fun k _ => n - (intOf k).toNat)
  case atStart => exact ⟨0, Nat.zero_le _, rfl, hp1, hb1⟩
  case round =>
    obtain ⟨j, hj, rfl, hp, hb⟩ := hrel
    clear hp1 hb1
    by_cases hlt : j < n
    · obtain ⟨b, off, cs, x, rfl, hx, hr, hc⟩ := (hi.below hb).at hlt
      obtain ⟨ub1, un1, uc1, rfl⟩ := rDp_form hr
      have c0 : wr.cell? ⟨b, off + j * 3, none⟩ = some (.string x.1) := by have h9 := hc 0 _ rfl; rw [← Nat.add_assoc] at h9; exact h9
      have c1 : wr.cell? ⟨b, off + j * 3 + 1, none⟩ = some (.slice ub1 un1 uc1) := by have h9 := hc 1 _ rfl; rw [← Nat.add_assoc] at h9; exact h9
      have c2 : wr.cell? ⟨b, off + j * 3 + 2, none⟩ = some (.int .i64 x.2.2) := by have h9 := hc 2 _ rfl; rw [← Nat.add_assoc] at h9; exact h9
      clear hc
      have hg : w.heap.size < wr.heap.size := by obtain ⟨_, _, _, _, _, _, _, h9⟩ := hp; exact h9
      have HC := Lib.hid (to_Dp _ x wr hr (hbk j x hx.out))
      have HI := Lib.hid hi
      go_wp2_with fail
      refine HC.out.mono ?_
      rintro e w1 ⟨d, rfl, ho, z1⟩
      obtain ⟨db1, dn1, dc1, rfl⟩ := oDp_form ho
      have s1 := z1.size
      have hp1 : Part 125 oDp [.string ⟨#[]⟩, .slice none 0 0, .int .i64 0] w.heap.size w1 w.heap.size n j xs := hp.below z1 (Nat.le_refl _)
      obtain ⟨⟨e0, f0⟩, g0⟩ := hp1.cell rfl hlt (by omega) 0 (by decide)
      replace f0 : w1.cell? ⟨w.heap.size, j * 3, none⟩ = some e0 := f0
      replace g0 : w1.frozen? ⟨w.heap.size, j * 3, none⟩ = false := g0
      obtain ⟨⟨e1, f1⟩, g1⟩ := hp1.cell rfl hlt (by omega) 1 (by decide)
      replace f1 : w1.cell? ⟨w.heap.size, j * 3 + 1, none⟩ = some e1 := f1
      replace g1 : w1.frozen? ⟨w.heap.size, j * 3 + 1, none⟩ = false := g1
      obtain ⟨⟨e2, f2⟩, g2⟩ := hp1.cell rfl hlt (by omega) 2 (by decide)
      replace f2 : w1.cell? ⟨w.heap.size, j * 3 + 2, none⟩ = some e2 := f2
      replace g2 : w1.frozen? ⟨w.heap.size, j * 3 + 2, none⟩ = false := g2
      have HP := Lib.hid (hp1.step (cs := [.string x.1, .slice db1 dn1 dc1, .int .i64 x.2.2]) rfl hlt hx.out ho hg ⟨wr, hp, Nat.le_refl _, fun p hp => z1.block p hp⟩ (Nat.le_refl _) (by omega))
      have hb1 := on hb z1
      clear ho hp hp1
      go_wp2_with fail
      go_roundw
      case rel => exact ⟨j + 1, by omega, by go_num, HP.out, (((hb1.setCell (Nat.le_refl _) _).setCell (Nat.le_refl _) _).setCell (Nat.le_refl _) _)⟩
      case measure => simp [intOf]; omega
    · have hjn : j = n := by omega
      subst hjn
      have HO := Lib.hid (hp.done hlen (by omega))
      clear hp hi
      go_wp2_with fail
      go_ret
      exact ⟨_, rfl, HO.out, hb⟩

set_option maxHeartbeats 2000000 in
theorem eq_Dl (u v : Value) (xs ys : List DDp) (w : World) (h : rDl.rep w [u] xs) (h' : rDl.rep w [v] ys) :
    Calls Try.prog 56 #[u, v] w fun e w' => e = .returned (.bool (decide (xs = ys))) ∧ Below w.heap.size w w' := by
  obtain ⟨a, cap, rfl, _, _, hi⟩ := rS_open h
  obtain ⟨a', cap', rfl, _, _, hi'⟩ := rS_open h'
  clear h h'
  have hn := hi.small
  have hn' := hi'.small
  obtain ⟨n, hl⟩ : ∃ n, xs.length = n := ⟨_, rfl⟩
  obtain ⟨m, hl'⟩ : ∃ n, ys.length = n := ⟨_, rfl⟩
  rw [hl] at hi hn ⊢
  rw [hl'] at hi' hn' ⊢
  by_cases hnm : n = m
  case neg =>
    have HE := Lib.hid (show decide (xs = ys) = false by simp only [decide_eq_false_iff_not]; intro e; subst e; omega)
    have hne : ((n : Int) != (m : Int)) = true := by rw [bne_iff_ne]; omega
    clear hl hl' hi hi'
    go_enter Try.func56, Try.ntmps56
    go_wp2_with fail
    go_ret
    exact ⟨ret_bool HE.out.symm, Below.refl _ _⟩
  subst hnm
  go_enter Try.func56, Try.ntmps56
  go_wp2_with fail
  go_loopw [5] (fun k wr => ∃ j : Nat, j ≤ n ∧ k = .int .i64 j ∧ Hid (xs.take j = ys.take j) ∧ Below w.heap.size w wr) (fun k _ => n - (intOf k).toNat)
  case atStart => exact ⟨0, Nat.zero_le _, rfl, rfl, Below.refl _ _⟩
  case round =>
    obtain ⟨j, hj, rfl, hE, hb⟩ := hrel
    by_cases hlt : j < n
    · obtain ⟨b, off, cs, x, rfl, hx, hr, hc⟩ := (hi.below hb).at hlt
      obtain ⟨b', off', ds, y, rfl, hy, hr', hd⟩ := (hi'.below hb).at hlt
      obtain ⟨ub1, un1, uc1, rfl⟩ := rDp_form hr
      obtain ⟨vb1, vn1, vc1, rfl⟩ := rDp_form hr'
      have c0 : wr.cell? ⟨b, off + j * 3, none⟩ = some (.string x.1) := by have h9 := hc 0 _ rfl; rw [← Nat.add_assoc] at h9; exact h9
      have c1 : wr.cell? ⟨b, off + j * 3 + 1, none⟩ = some (.slice ub1 un1 uc1) := by have h9 := hc 1 _ rfl; rw [← Nat.add_assoc] at h9; exact h9
      have c2 : wr.cell? ⟨b, off + j * 3 + 2, none⟩ = some (.int .i64 x.2.2) := by have h9 := hc 2 _ rfl; rw [← Nat.add_assoc] at h9; exact h9
      have d0 : wr.cell? ⟨b', off' + j * 3, none⟩ = some (.string y.1) := by have h9 := hd 0 _ rfl; rw [← Nat.add_assoc] at h9; exact h9
      have d1 : wr.cell? ⟨b', off' + j * 3 + 1, none⟩ = some (.slice vb1 vn1 vc1) := by have h9 := hd 1 _ rfl; rw [← Nat.add_assoc] at h9; exact h9
      have d2 : wr.cell? ⟨b', off' + j * 3 + 2, none⟩ = some (.int .i64 y.2.2) := by have h9 := hd 2 _ rfl; rw [← Nat.add_assoc] at h9; exact h9
      have hcall := fun (W : World) (hW : Below wr.heap.size wr W) => eq_Dp _ _ x y W (rDp.mono hr hW) (rDp.mono hr' hW)
      obtain ⟨t, ht⟩ : ∃ t, t = decide (x = y) := ⟨_, rfl⟩
      rw [← ht] at hcall
      have HC := Lib.hid hcall
      clear hcall hi hi' hr hr' hc hd
      have HT : Hid (if t = true then xs.take (j + 1) = ys.take (j + 1) else decide (xs = ys) = false) := by
        cases t
        · simp only [Bool.false_eq_true, if_false]
          have hxy : x ≠ y := by simpa using ht.symm
          simp only [Hid, Bool.false_eq_true, if_false, decide_eq_false_iff_not]; intro e; subst e; exact hxy (Option.some.inj (hx.out.symm.trans hy.out))
        · have hxy : x = y := by simpa using ht.symm
          simp only [Hid, if_true]; rw [take_snoc' xs j x hx.out, take_snoc' ys j y hy.out, hE.out, hxy]
      clear ht hx hy hE
      have lb : b < wr.heap.size := cell_lt c0
      have lb' : b' < wr.heap.size := cell_lt d0
      go_wp2_with fail
      go_region_held3 (fun W => W.cell? ⟨b, off + j * 3, none⟩ = some (.string x.1) ∧ W.cell? ⟨b, off + j * 3 + 1, none⟩ = some (.slice ub1 un1 uc1) ∧ W.cell? ⟨b, off + j * 3 + 2, none⟩ = some (.int .i64 x.2.2) ∧ W.cell? ⟨b', off' + j * 3, none⟩ = some (.string y.1) ∧ W.cell? ⟨b', off' + j * 3 + 1, none⟩ = some (.slice vb1 vn1 vc1) ∧ W.cell? ⟨b', off' + j * 3 + 2, none⟩ = some (.int .i64 y.2.2)) (first | exact ⟨c0, c1, c2, d0, d1, d2⟩ | assumption) ((go_at_call 130; refine (HC.out _ (Below.refl _ _).drew).mono ?_; rintro e w1 ⟨rfl, z1⟩; replace z1 : Below wr.heap.size wr w1 := (Below.refl _ _).drew.trans z1; have hS0 := (⟨(z1.cell (p := ⟨b, off + j * 3, none⟩) (by simp only []; omega)).trans c0, (z1.cell (p := ⟨b, off + j * 3 + 1, none⟩) (by simp only []; omega)).trans c1, (z1.cell (p := ⟨b, off + j * 3 + 2, none⟩) (by simp only []; omega)).trans c2, (z1.cell (p := ⟨b', off' + j * 3, none⟩) (by simp only []; omega)).trans d0, (z1.cell (p := ⟨b', off' + j * 3 + 1, none⟩) (by simp only []; omega)).trans d1, (z1.cell (p := ⟨b', off' + j * 3 + 2, none⟩) (by simp only []; omega)).trans d2⟩ : (fun W => W.cell? ⟨b, off + j * 3, none⟩ = some (.string x.1) ∧ W.cell? ⟨b, off + j * 3 + 1, none⟩ = some (.slice ub1 un1 uc1) ∧ W.cell? ⟨b, off + j * 3 + 2, none⟩ = some (.int .i64 x.2.2) ∧ W.cell? ⟨b', off' + j * 3, none⟩ = some (.string y.1) ∧ W.cell? ⟨b', off' + j * 3 + 1, none⟩ = some (.slice vb1 vn1 vc1) ∧ W.cell? ⟨b', off' + j * 3 + 2, none⟩ = some (.int .i64 y.2.2)) w1)))
      replace z1 : Below wr.heap.size wr w1 := z1
      have z2 := on hb z1
      cases t
      · have HE : Hid (decide (xs = ys) = false) := by simpa [Hid] using HT.out
        go_wp2_with fail
        go_ret
        exact ⟨ret_bool HE.out.symm, z2⟩
      · have HE : Hid (xs.take (j + 1) = ys.take (j + 1)) := by simpa [Hid] using HT.out
        go_wp2_with fail
        go_roundw
        case rel => exact ⟨j + 1, by omega, by go_num, HE.out, z2⟩
        case measure => simp [intOf]; omega
    · have HE := Lib.hid (show decide (xs = ys) = true by
        have e := hE.out
        rw [List.take_of_length_le (by omega), List.take_of_length_le (by omega)] at e
        simp [e])
      clear hi hi' hl hl'
      go_wp2_with fail
      go_ret
      exact ⟨ret_bool HE.out.symm, hb⟩

end Go.Proofs.Ytbkoddikfpkocaa

/- Arguments of kind Dp opened. Written by a program. -/
namespace Go.Proofs.Ytbkoddikfpkocaa
open Go.ChangeShapes Go.WideShapes Go.ChangeAt Go.RowKit
set_option linter.unusedVariables false
set_option maxRecDepth 100000

theorem opens_Dp : Opens 124 rDp := opens_struct3 Try.underlying124 (by kernel_rfl) rfl rfl rfl (by kernel_rfl) (by kernel_rfl) (by kernel_rfl) opens_str' opens_I opens_int
abbrev kDp_in := agg_in rDp
theorem open_kDp_in {H : Type} {enc : TypeId × Value → H} {W : World} {d : DataW H} {ps : List MemPlace} {v : Value} (hv : Value.okWide Try.prog W .any 0 124 v) (h : DataW.Trod enc Try.prog W 0 (fun _ => true) true 124 v d ps) : kDp_in W v :=
  open_agg_in Try.underlying124 opens_Dp hv h

end Go.Proofs.Ytbkoddikfpkocaa

/- Arguments of kind Dl opened. Written by a program. -/
namespace Go.Proofs.Ytbkoddikfpkocaa
open Go.ChangeShapes Go.WideShapes Go.ChangeAt Go.RowKit
set_option linter.unusedVariables false
set_option maxRecDepth 100000

theorem opens_Dl : Opens 58 rDl := opens_slice Try.underlying58 (by kernel_rfl) (by decide) opens_Dp
def kDl_in (w : World) (v : Value) : Prop := ∃ u xs, v = u ∧ rDl.rep w [u] xs
theorem open_kDl_in {H : Type} {enc : TypeId × Value → H} {W : World} {d : DataW H} {ps : List MemPlace} {v : Value} (hv : Value.okWide Try.prog W .any 0 58 v) (h : DataW.Trod enc Try.prog W 0 (fun _ => true) true 58 v d ps) : kDl_in W v := by
  obtain ⟨a, l, c, rfl⟩ := okWide_slice Try.underlying58 hv
  obtain ⟨fuel, hf⟩ := h
  obtain ⟨xs, hx⟩ := opens_Dl H enc W fuel _ _ hf
  exact ⟨_, xs, rfl, by simpa [Value.cells] using hx⟩

end Go.Proofs.Ytbkoddikfpkocaa

/- Marks of slices of dependencies. Written by a program. -/
namespace Go.Proofs.Ytbkoddikfpkocaa
open Go.RowKit
set_option linter.unusedVariables false
set_option linter.unusedSimpArgs false
set_option synthInstance.maxSize 2000
set_option synthInstance.maxHeartbeats 400000

def cntE_Dp (x : DDp) : Nat := 1 + x.2.1.length + 1
def mkE_Dp (k : Int) (x : DDp) : DDp := (mtext k.toNat, marks (k + 1) x.2.1.length, (k + 1 + (x.2.1.length : Int)))

def cnt_Dl (xs : List DDp) : Nat := sumBy cntE_Dp xs
def mk_Dl (k : Int) (xs : List DDp) : List DDp := mkL mkE_Dp cntE_Dp k xs

set_option maxHeartbeats 2000000 in
theorem markR_Dl (a : Option Addr) (n cap : Nat) (xs : List DDp) (fp : List Nat) (k : Int) (w : World) (h : oDl.rep w [.slice a n cap] xs fp) (hfp : fp.Nodup)
    (k0 : 1 ≤ k) (k1 : k + cnt_Dl xs ≤ 1000000000) (hb : bulk_Dl xs ≤ 100000000) :
    Calls Try.prog 57 #[.slice a n cap, .int .i64 k] w fun e w' => e = .returned (.int .i64 (k + cnt_Dl xs)) ∧ oDl.rep w' [.slice a n cap] (mk_Dl k xs) fp ∧ Alt fp w w' := by
  have hl : xs.length = n := oS_len1 h
  have hsm : n ≤ 100000000 := by unfold bulk_Dl at hb; omega
  have hbs : sumBy bulk_Dp xs ≤ 100000000 := by unfold bulk_Dl at hb; omega
  clear hb
  unfold cnt_Dl at *
  go_enter Try.func57, Try.ntmps57
  go_wp2
  go_loopw [1, 5] (fun q i wr => ∃ j : Nat, j ≤ n ∧ i = .int .i64 j ∧ q = .int .i64 (k + sumBy cntE_Dp (xs.take j)) ∧ Hid (oDl.rep wr [.slice a n cap] (mkLTo mkE_Dp cntE_Dp k xs j) fp) ∧ Alt fp w wr)
    (fun _ i _ => n - (intOf i).toNat)
  case atStart => exact ⟨0, Nat.zero_le _, rfl, by simp [sumBy], Lib.hid (by rw [mkLTo_zero]; exact h), Alt.refl _ _⟩
  case round =>
    obtain ⟨j, hj, rfl, rfl, hown, hk⟩ := hrel
    clear h
    by_cases hlt : j < n
    · obtain ⟨r, hr⟩ : ∃ r, xs[j]? = some r := ⟨_, List.getElem?_eq_getElem (by omega)⟩
      have HLT := Lib.hid (oDl.lt hown.out)
      obtain ⟨g, c, f, pre, post, E, rfl, hgm, hgf, hgl, hrep, hfn, hfs, hpre, hg, hset⟩ := slice_at hown.out hfp (mkLTo_get mkE_Dp cntE_Dp k xs j r hr)
      obtain ⟨c0, d0, p0, q0, rfl, rfl, ⟨rfl, hs0, rfl⟩, ⟨c1, d1, p1, q1, rfl, rfl, t1, ⟨rfl, hs2, rfl⟩⟩⟩ := hrep
      obtain ⟨a1, n1, rfl⟩ := oS_len t1
      have hgf1 : g ∉ p1 := fun h9 => hgf (by simp [h9])
      simp only [List.nodup_append, List.nil_append, List.append_nil] at hfn
      have hn1 : p1.Nodup := by first | exact hfn | exact hfn.1 | exact hfn.2.1 | exact hfn.2.1.1 | exact hfn.2.1.2.1
      replace hpre : pre.length = j * 3 := hpre
      obtain ⟨q, hq⟩ : ∃ q : Nat, q = sumBy cntE_Dp (xs.take j) := ⟨_, rfl⟩
      have hq2 := sumBy_take cntE_Dp hr
      have hle2 := sumBy_le cntE_Dp hr
      have hcnt : cntE_Dp r = 1 + r.2.1.length + 1 := rfl
      rw [← hq] at hle2 hq2 ⊢
      rw [hcnt] at hle2 hq2
      have HQ := Lib.hid hq
      have HQ2 := Lib.hid hq2
      have HR := Lib.hid hr
      have HS := Lib.hid hset
      have HP := Lib.hid hpre
      have HL := Lib.hid hl
      have HF := Lib.hid hgf
      replace hg : wr.heap[g]? = some (.cells (pre ++ ([Value.string r.1, Value.slice a1 r.2.1.length n1, Value.int .i64 r.2.2] ++ post)).toArray E) := hg
      have HK := Lib.hid hk
      clear hset hown hl hr hq hq2 hcnt hpre hgf hfn hk
      have A0 := Alt.refl (g :: ([] ++ (p1 ++ []))) wr
      have u0_0 : wr.cell? ⟨g, j * 3, none⟩ = some (Value.string r.1) := at_cell hg HP.out (j := 0) rfl
      have u0_1 : wr.cell? ⟨g, j * 3 + 1, none⟩ = some (Value.slice a1 r.2.1.length n1) := at_cell hg HP.out (j := 1) rfl
      have u0_2 : wr.cell? ⟨g, j * 3 + 2, none⟩ = some (Value.int .i64 r.2.2) := at_cell hg HP.out (j := 2) rfl
      have uf0 := fun i => at_frozen hg i
      have uz0_0 := uf0 (j * 3)
      have uz0_1 := uf0 (j * 3 + 1)
      have uz0_2 := uf0 (j * 3 + 2)
      clear uf0
      go_wp2_with fail
      clear u0_0 u0_1 u0_2 uz0_0 uz0_1 uz0_2
      refine (markText_int _ _ (by omega) (by omega)).mono ?_
      rintro e w1 ⟨rfl, z1⟩
      have hg1 := (z1.block g (Array.getElem?_eq_some_iff.1 hg).1).trans hg
      have A1 := A0.trans (Alt.below z1)
      replace t1 := oI.frame t1 (fun p9 hp9 => z1.block p9 (oI.lt t1 p9 hp9))
      clear z1
      have u1_0 : w1.cell? ⟨g, j * 3, none⟩ = some (Value.string r.1) := at_cell hg1 HP.out (j := 0) rfl
      have u1_1 : w1.cell? ⟨g, j * 3 + 1, none⟩ = some (Value.slice a1 r.2.1.length n1) := at_cell hg1 HP.out (j := 1) rfl
      have u1_2 : w1.cell? ⟨g, j * 3 + 2, none⟩ = some (Value.int .i64 r.2.2) := at_cell hg1 HP.out (j := 2) rfl
      have uf1 := fun i => at_frozen hg1 i
      have uz1_0 := uf1 (j * 3)
      have uz1_1 := uf1 (j * 3 + 1)
      have uz1_2 := uf1 (j * 3 + 2)
      clear uf1
      go_wp2_with fail
      obtain ⟨w2, hw2⟩ : ∃ W, W = w1.setCell ⟨g, j * 3, none⟩ (Value.string (mtext (k + (q : Int)).toNat)) := ⟨_, rfl⟩
      rw [← hw2]
      have hg2 : w2.heap[g]? = some (.cells (pre ++ ([Value.string (mtext (k + (q : Int)).toNat), Value.slice a1 r.2.1.length n1, Value.int .i64 r.2.2] ++ post)).toArray E) := by rw [hw2]; exact at_set hg1 HP.out (j := 0) (by simp) _
      have A2 : Alt _ wr w2 := A1.trans (by rw [hw2]; exact Alt.set (by simp) _)
      replace t1 := oI.frame (w' := w2) t1 (fun p9 hp9 => by rw [hw2]; exact Below.heap_setCell _ _ _ _ (fun e => hgf1 ((show p9 = g from e) ▸ hp9)))
      clear u1_0 u1_1 u1_2 uz1_0 uz1_1 uz1_2 hw2
      refine (markI a1 r.2.1.length n1 r.2.1 p1 _ _ t1 (by omega) (by omega) (by omega)).mono ?_
      rintro e w3 ⟨rfl, t1, z3⟩
      have hg3 := (z3.block g hgf1).trans hg2
      have A3 := A2.trans ((Alt.only z3).mono (by simp <;> (intros; simp [*])))
      clear z3
      have u3_0 : w3.cell? ⟨g, j * 3, none⟩ = some (Value.string (mtext (k + (q : Int)).toNat)) := at_cell hg3 HP.out (j := 0) rfl
      have u3_1 : w3.cell? ⟨g, j * 3 + 1, none⟩ = some (Value.slice a1 r.2.1.length n1) := at_cell hg3 HP.out (j := 1) rfl
      have u3_2 : w3.cell? ⟨g, j * 3 + 2, none⟩ = some (Value.int .i64 r.2.2) := at_cell hg3 HP.out (j := 2) rfl
      have uf3 := fun i => at_frozen hg3 i
      have uz3_0 := uf3 (j * 3)
      have uz3_1 := uf3 (j * 3 + 1)
      have uz3_2 := uf3 (j * 3 + 2)
      clear uf3
      go_wp2_with fail
      have hgz := at_set hg3 HP.out (j := 2) (by simp) (Value.int .i64 (k + (q : Int) + 1 + (r.2.1.length : Int)))
      have Az := A3.trans (Alt.set (p := ⟨g, j * 3 + 2, none⟩) (by simp) (Value.int .i64 (k + (q : Int) + 1 + (r.2.1.length : Int))))
      replace t1 := oI.frame (w' := w3.setCell ⟨g, j * 3 + 2, none⟩ (Value.int .i64 (k + (q : Int) + 1 + (r.2.1.length : Int)))) t1 (fun p9 hp9 => Below.heap_setCell _ _ _ _ (fun e => hgf1 ((show p9 = g from e) ▸ hp9)))
      have HO : Hid (oDl.rep (w3.setCell ⟨g, j * 3 + 2, none⟩ (Value.int .i64 (k + (q : Int) + 1 + (r.2.1.length : Int)))) [.slice (some ⟨g, 0, none⟩) n cap] (mkLTo mkE_Dp cntE_Dp k xs (j + 1)) fp) := by
        have h7 := HS.out (w3.setCell ⟨g, j * 3 + 2, none⟩ (Value.int .i64 (k + (q : Int) + 1 + (r.2.1.length : Int)))) (mkE_Dp (k + (q : Int)) r) [Value.string (mtext (k + (q : Int)).toNat), Value.slice a1 r.2.1.length n1, Value.int .i64 (k + (q : Int) + 1 + (r.2.1.length : Int))] ⟨[Value.string (mtext (k + (q : Int)).toNat)], [Value.slice a1 r.2.1.length n1, Value.int .i64 (k + (q : Int) + 1 + (r.2.1.length : Int))], [], _, rfl, rfl, ⟨rfl, mtext_size _ (by omega), rfl⟩, ⟨[Value.slice a1 r.2.1.length n1], [Value.int .i64 (k + (q : Int) + 1 + (r.2.1.length : Int))], p1, _, rfl, rfl, t1, ⟨rfl, ⟨by show (-9223372036854775808 : Int) ≤ k + (q : Int) + 1 + (r.2.1.length : Int); omega, by show k + (q : Int) + 1 + (r.2.1.length : Int) ≤ (9223372036854775807 : Int); omega⟩, rfl⟩⟩⟩ hgz (fun k h8 h9 h10 => Az.block k (HLT.out k h8) (by simp only [List.mem_cons, not_or]; exact ⟨h9, h10⟩))
        have h6 := mkLTo_step mkE_Dp cntE_Dp k xs j r HR.out
        rw [← HQ.out] at h6
        rw [h6] at h7
        exact h7
      have hk2 := HK.out.trans (Az.mono (fun k h8 => by
        rcases List.mem_cons.1 h8 with h9 | h9
        · exact h9 ▸ hgm
        · exact hfs k h9))
      clear u3_0 u3_1 u3_2 uz3_0 uz3_1 uz3_2
      clear t1
      go_roundw
      case rel => exact ⟨j + 1, by omega, by go_num, by rw [HQ2.out]; go_num, HO, hk2⟩
      case measure => simp [intOf]; omega
    · obtain rfl : j = n := by omega
      have HO := hown.out
      rw [mkLTo_all mkE_Dp cntE_Dp k xs hl] at HO
      have HO' := Lib.hid HO
      have he : (xs.take j) = xs := List.take_of_length_le (by omega)
      rw [he]
      clear HO hown hl he
      go_wp2
      go_ret
      exact ⟨rfl, HO'.out, hk⟩

theorem mark_Dl (u : Value) (xs : List DDp) (k : Int) (lo hi : Nat) (w : World) (h : Own oDl lo hi w [u] xs) (hh : hi ≤ w.heap.size) (k0 : 1 ≤ k) (k1 : k + cnt_Dl xs ≤ 1000000000) (hb : bulk_Dl xs ≤ 100000000) :
    Calls Try.prog 57 #[u, .int .i64 k] w fun e w' => e = .returned (.int .i64 (k + cnt_Dl xs)) ∧ Own oDl lo hi w' [u] (mk_Dl k xs) ∧ Turn lo hi w w' := by
  obtain ⟨fp, h1, h2, h3⟩ := h
  obtain ⟨a, cap, hv⟩ := oS_len h1
  simp at hv
  subst hv
  exact (markR_Dl a _ cap xs fp k w h1 h2 k0 k1 hb).mono fun e w' ⟨he, h4, h5⟩ => ⟨he, ⟨fp, h4, h2, h3⟩, h5.turn h3⟩

theorem cnt_le_Dl (xs : List DDp) : cnt_Dl xs ≤ 2 * bulk_Dl xs :=
  sumBy_two (fun x => by simp only [cntE_Dp, bulk_Dp, bulk_I, Nat.add_zero]; omega) xs

end Go.Proofs.Ytbkoddikfpkocaa

/- Contracts: columns selected from a row. -/
namespace Go.Proofs.Ytbkoddikfpkocaa
open Go.RowKit
set_option linter.unusedVariables false
set_option linter.unusedSimpArgs false
set_option synthInstance.maxSize 2000
set_option synthInstance.maxHeartbeats 400000

/-- Whether columns are columns of a row. -/
def selOk (row cols : List Int) : Bool := cols.all (fun c => betw c 0 ((row.length : Int) - 1))
/-- The values of a row at columns. -/
def selAt (row cols : List Int) : List Int := cols.map (fun c => row.getD c.toNat 0)
def sel (row cols : List Int) : List Int := if selOk row cols then selAt row cols else []
theorem selAt_len (row cols : List Int) : (selAt row cols).length = cols.length := by simp [selAt]
theorem sel_len (row cols : List Int) : (sel row cols).length ≤ cols.length := by
  unfold sel; split <;> simp [selAt]
theorem selAt_step {row cols : List Int} {j : Nat} {c : Nat} {x : Int} (hj : j < cols.length) (hc : cols.getD j 0 = (c : Int)) (hx : row.getD c 0 = x) : selAt row (cols.take (j + 1)) = selAt row (cols.take j) ++ [x] := by
  rw [take_snoc cols j hj, hc]; simp only [selAt, List.map_append, List.map_cons, List.map_nil, Int.toNat_natCast, hx]
theorem selOk_no {row cols : List Int} {j : Nat} {x : Int} (hj : j < cols.length) (hc : cols.getD j 0 = x) (hb : betw x 0 ((row.length : Int) - 1) = false) : selOk row cols = false := by
  rw [selOk, List.all_eq_false]
  refine ⟨x, ?_, by rw [hb]; simp⟩
  rw [← hc, List.getD_eq_getElem?_getD, List.getElem?_eq_getElem hj]
  exact List.getElem_mem hj
theorem selOk_at {row cols : List Int} {j : Nat} {x : Int} (hj : j < cols.length) (hc : cols.getD j 0 = x) : selOk row (cols.drop j) = (betw x 0 ((row.length : Int) - 1) && selOk row (cols.drop (j + 1))) := by
  rw [drop_cons cols j hj, hc]; rfl
theorem selOk_end {row cols : List Int} {j : Nat} (hj : cols.length ≤ j) : selOk row (cols.drop j) = true := by
  rw [List.drop_eq_nil_of_le hj]; rfl
theorem I64.nat {x : Int} (h : betw x 0 9223372036854775806 = true) : ∃ c : Nat, x = (c : Int) := by
  refine ⟨x.toNat, ?_⟩
  simp only [betw, Bool.and_eq_true, decide_eq_true_eq] at h; omega
theorem betw_nat {x m : Int} (h : betw x 0 m = true) : ∃ c : Nat, x = (c : Int) ∧ (c : Int) ≤ m := by
  simp only [betw, Bool.and_eq_true, decide_eq_true_eq] at h
  exact ⟨x.toNat, by omega, by omega⟩

set_option maxHeartbeats 2000000 in
theorem sel_impl (a b : Option Addr) (n m cap cap' : Nat) (row cols : List Int) (w : World) (h : Ints w a n row) (h' : Ints w b m cols) (hm : m ≤ 1048576) :
    Calls Try.prog 139 #[.slice a n cap, .slice b m cap'] w fun e w' => ∃ vb vn vc, e = .returned (.tuple #[.slice vb vn vc, .bool (selOk row cols)]) ∧ Own oI w.heap.size w'.heap.size w' [.slice vb vn vc] (sel row cols) ∧ Below w.heap.size w w' := by
  have hl := h.len
  have hl' := h'.len
  have hn := h.small
  have hn' := h'.small
  have HV : Hid (selOk row cols = selOk row (cols.drop 0)) := Lib.hid (by simp)
  have hwn : IntKind.i64.wrap ((n : Int) - 1) = (n : Int) - 1 := IntWalk.i64_in _ (by omega)
  have hb0 : Below w.heap.size w w := Below.refl _ _
  go_enter Try.func139, Try.ntmps139
  obtain ⟨w1, hw1⟩ : ∃ W, W = w.alloc (.cells #[] 3) := ⟨_, rfl⟩
  have z1 : Below w.heap.size w w1 := by rw [hw1]; exact (Below.refl _ _).alloc (Nat.le_refl _) _
  have s1 : w1.heap.size = w.heap.size + 1 := by rw [hw1]; simp
  have hb1 := on hb0 z1
  have ho : ∀ S, Acc 3 O.int w.heap.size S w1.heap.size w1 (.slice (some ⟨w.heap.size, 0, none⟩) 0 0) [] := fun S => by rw [hw1]; exact Acc.empty (by omega) (by first | (simp; done) | (simp; omega))
  go_wp2_with fail
  rw [← hw1]
  clear hw1
  go_loopw [6, 12] (fun v i wr => ∃ j : Nat, j ≤ m ∧ i = .int .i64 j ∧ Hid (selOk row cols = selOk row (cols.drop j)) ∧ Acc 3 O.int w.heap.size w1.heap.size wr.heap.size wr v (selAt row (cols.take j)) ∧ Turn w.heap.size (w.heap.size + 1) w1 wr) (fun _ i _ => m - (intOf i).toNat)
  case atStart => exact ⟨0, Nat.zero_le _, rfl, HV.out, by rw [List.take_zero]; exact (ho _).wide (Nat.le_refl _) (by omega), turn_refl _ _ _⟩
  case round =>
    obtain ⟨j, hj, rfl, hE, hacc, hdr⟩ := hrel
    have hlc := hdr
    have s2 := hdr.size
    have hb2 := hb1.trans ((hdr.below (by omega)).mono (by omega))
    have hbl : (selAt row (cols.take j)).length ≤ 1048576 := by rw [selAt_len]; have h2 : (cols.take j).length ≤ j := List.length_take_le _ _; omega
    by_cases hlt : j < m
    · obtain ⟨b1, o1, x, rfl, hc, hx, _, _⟩ := h'.get hlt
      have c0_lt : b1 < w.heap.size := cell_lt hc
      have c0 : wr.cell? ⟨b1, o1 + j, none⟩ = some (.int .i64 x) := (hb2.cell (p := ⟨b1, o1 + j, none⟩) c0_lt).trans hc
      have hcall := fun W => within_any x 0 ((n : Int) - 1) W
      by_cases hb : betw x 0 ((n : Int) - 1) = true
      case neg =>
        replace hb : betw x 0 ((n : Int) - 1) = false := by simpa using hb
        have HE := Lib.hid (selOk_no (row := row) (by omega) hx.out (by rw [hl]; exact hb))
        rw [hb] at hcall
        have HC := Lib.hid hcall
        have HS := Lib.hid (show sel row cols = [] by simp [sel, HE.out])
        clear h h' hb hcall hE HV hl hl' ho hx hc hacc
        go_wp2_with fail
        refine (HC.out _).mono ?_
        rintro e w' ⟨rfl, rfl⟩
        go_wp2_with fail
        refine bodyPost_ret (v := .tuple #[.slice none 0 0, .bool false]) (by simp [results, Try.results139, go_sem]) rfl ⟨_, _, _, by rw [HE.out], by rw [HS.out]; exact own_nil_S.mono (Nat.le_refl _) (by omega), hb2⟩
      obtain ⟨c, rfl, hcn⟩ := betw_nat hb
      rw [hb] at hcall
      have HC := Lib.hid hcall
      obtain ⟨b2, o2, y, rfl, hcy, hy, hy1, hy2⟩ := h.get (show c < n by omega)
      have cy_lt : b2 < w.heap.size := cell_lt hcy
      have cy : wr.cell? ⟨b2, o2 + c, none⟩ = some (.int .i64 y) := (hb2.cell (p := ⟨b2, o2 + c, none⟩) cy_lt).trans hcy
      have HB := Lib.hid (selAt_step (show j < cols.length by omega) hx.out hy.out)
      have HE : Hid (selOk row cols = selOk row (cols.drop (j + 1))) := Lib.hid (by rw [hE.out, selOk_at (by omega) hx.out, hl, hb]; rfl)
      clear h h' hb hcall hE HV hl hl' ho hx hc hy hcy
      go_wp2_with (first
        | (go_at_call 99; refine (HC.out _).mono ?_; rintro e w' ⟨rfl, rfl⟩)
        | (at_builtin; refine wpList_accI _ _ _ _ _ hacc hlc rfl (by omega) (Nat.le_refl _) ⟨by omega, by omega⟩ (by omega) rfl rfl rfl rfl rfl ?_; intro v' w1 hacc' ht' hsz'))
      rw [← HB.out] at hacc'
      go_roundw
      case rel => exact ⟨j + 1, by omega, by go_num, HE.out, hacc', ht'⟩
      case measure => simp [intOf]; omega
    · obtain rfl : j = m := by omega
      have HE : Hid (selOk row cols = true) := Lib.hid (by rw [hE.out, selOk_end (by omega)])
      have HS := Lib.hid (show sel row cols = selAt row cols by simp [sel, HE.out])
      rw [List.take_of_length_le (by omega), ← HS.out] at hacc
      obtain ⟨a', n', cap2, rfl⟩ := hacc.form3
      have HO := Lib.hid (hacc.own (B := w.heap.size) (by omega) (by omega) (Nat.le_refl _))
      clear hacc h h' hl hl' ho hE HV
      go_wp2_with fail
      refine bodyPost_ret (v := .tuple #[.slice a' n' cap2, .bool true]) (by simp [results, Try.results139, go_sem]) rfl ⟨_, _, _, by rw [HE.out], HO.out, hb2⟩

set_option maxHeartbeats 2000000 in
theorem sel_spec (a b : Option Addr) (n m cap cap' : Nat) (row cols : List Int) (w : World) (h : Ints w a n row) (h' : Ints w b m cols) (hm : m ≤ 1048576) :
    Calls Try.prog 134 #[.slice a n cap, .slice b m cap'] w fun e w' => ∃ vb vn vc, e = .returned (.tuple #[.slice vb vn vc, .bool (selOk row cols)]) ∧ Own oI w.heap.size w'.heap.size w' [.slice vb vn vc] (sel row cols) ∧ Below w.heap.size w w' := by
  have hl := h.len
  have hl' := h'.len
  have hn := h.small
  have hn' := h'.small
  have HV : Hid (selOk row cols = selOk row (cols.drop 0)) := Lib.hid (by simp)
  have hwn : IntKind.i64.wrap ((n : Int) - 1) = (n : Int) - 1 := IntWalk.i64_in _ (by omega)
  have hb0 : Below w.heap.size w w := Below.refl _ _
  go_enter Try.func134, Try.ntmps134
  obtain ⟨w1, hw1⟩ : ∃ W, W = w.alloc (.cells #[] 3) := ⟨_, rfl⟩
  have z1 : Below w.heap.size w w1 := by rw [hw1]; exact (Below.refl _ _).alloc (Nat.le_refl _) _
  have s1 : w1.heap.size = w.heap.size + 1 := by rw [hw1]; simp
  have hb1 := on hb0 z1
  have ho : ∀ S, Acc 3 O.int w.heap.size S w1.heap.size w1 (.slice (some ⟨w.heap.size, 0, none⟩) 0 0) [] := fun S => by rw [hw1]; exact Acc.empty (by omega) (by first | (simp; done) | (simp; omega))
  go_wp2_with fail
  rw [← hw1]
  clear hw1
  go_loopw [6, 7] (fun v i wr => ∃ j : Nat, j ≤ m ∧ i = .int .i64 j ∧ Hid (selOk row cols = selOk row (cols.drop j)) ∧ Acc 3 O.int w.heap.size w1.heap.size wr.heap.size wr v (selAt row (cols.take j)) ∧ Turn w.heap.size (w.heap.size + 1) w1 wr) (fun _ i _ => m - (intOf i).toNat)
  case atStart => exact ⟨0, Nat.zero_le _, rfl, HV.out, by rw [List.take_zero]; exact (ho _).wide (Nat.le_refl _) (by omega), turn_refl _ _ _⟩
  case round =>
    obtain ⟨j, hj, rfl, hE, hacc, hdr⟩ := hrel
    have hlc := hdr
    have s2 := hdr.size
    have hb2 := hb1.trans ((hdr.below (by omega)).mono (by omega))
    have hbl : (selAt row (cols.take j)).length ≤ 1048576 := by rw [selAt_len]; have h2 : (cols.take j).length ≤ j := List.length_take_le _ _; omega
    by_cases hlt : j < m
    · obtain ⟨b1, o1, x, rfl, hc, hx, _, _⟩ := h'.get hlt
      have c0_lt : b1 < w.heap.size := cell_lt hc
      have c0 : wr.cell? ⟨b1, o1 + j, none⟩ = some (.int .i64 x) := (hb2.cell (p := ⟨b1, o1 + j, none⟩) c0_lt).trans hc
      have hcall := fun W => l1In_any x 0 ((n : Int) - 1) W
      by_cases hb : betw x 0 ((n : Int) - 1) = true
      case neg =>
        replace hb : betw x 0 ((n : Int) - 1) = false := by simpa using hb
        have HE := Lib.hid (selOk_no (row := row) (by omega) hx.out (by rw [hl]; exact hb))
        rw [hb] at hcall
        have HC := Lib.hid hcall
        have HS := Lib.hid (show sel row cols = [] by simp [sel, HE.out])
        clear h h' hb hcall hE HV hl hl' ho hx hc hacc
        go_wp2_with fail
        refine (HC.out _).mono ?_
        rintro e w' ⟨rfl, rfl⟩
        go_wp2_with fail
        refine bodyPost_ret (v := .tuple #[.slice (some ⟨wr.heap.size, 0, none⟩) 0 0, .bool false]) (by simp [results, Try.results134, go_sem]) rfl ⟨_, _, _, by rw [HE.out], by rw [HS.out]; exact ((Acc.empty (E := 3) (o := O.int) (S := w.heap.size) (g := wr.heap.size) (hi := wr.heap.size + 1) rfl (by omega)).own (by omega) (Nat.le_refl _) (by simp)), hb2.trans ((Below.refl _ _).alloc (by omega) _)⟩
      obtain ⟨c, rfl, hcn⟩ := betw_nat hb
      rw [hb] at hcall
      have HC := Lib.hid hcall
      obtain ⟨b2, o2, y, rfl, hcy, hy, hy1, hy2⟩ := h.get (show c < n by omega)
      have cy_lt : b2 < w.heap.size := cell_lt hcy
      have cy : wr.cell? ⟨b2, o2 + c, none⟩ = some (.int .i64 y) := (hb2.cell (p := ⟨b2, o2 + c, none⟩) cy_lt).trans hcy
      have HB := Lib.hid (selAt_step (show j < cols.length by omega) hx.out hy.out)
      have HE : Hid (selOk row cols = selOk row (cols.drop (j + 1))) := Lib.hid (by rw [hE.out, selOk_at (by omega) hx.out, hl, hb]; rfl)
      clear h h' hb hcall hE HV hl hl' ho hx hc hy hcy
      go_wp2_with (first
        | (go_at_call 98; refine (HC.out _).mono ?_; rintro e w' ⟨rfl, rfl⟩)
        | (at_builtin; refine wpList_accI _ _ _ _ _ hacc hlc rfl (by omega) (Nat.le_refl _) ⟨by omega, by omega⟩ (by omega) rfl rfl rfl rfl rfl ?_; intro v' w1 hacc' ht' hsz'))
      rw [← HB.out] at hacc'
      go_roundw
      case rel => exact ⟨j + 1, by omega, by go_num, HE.out, hacc', ht'⟩
      case measure => simp [intOf]; omega
    · obtain rfl : j = m := by omega
      have HE : Hid (selOk row cols = true) := Lib.hid (by rw [hE.out, selOk_end (by omega)])
      have HS := Lib.hid (show sel row cols = selAt row cols by simp [sel, HE.out])
      rw [List.take_of_length_le (by omega), ← HS.out] at hacc
      obtain ⟨a', n', cap2, rfl⟩ := hacc.form3
      have HO := Lib.hid (hacc.own (B := w.heap.size) (by omega) (by omega) (Nat.le_refl _))
      clear hacc h h' hl hl' ho hE HV
      go_wp2_with fail
      refine bodyPost_ret (v := .tuple #[.slice a' n' cap2, .bool true]) (by simp [results, Try.results134, go_sem]) rfl ⟨_, _, _, by rw [HE.out], HO.out, hb2⟩


end Go.Proofs.Ytbkoddikfpkocaa

/- Plain: closures of columns. -/
namespace Go.Proofs.Ytbkoddikfpkocaa
open Go.RowKit
set_option linter.unusedVariables false
set_option linter.unusedSimpArgs false

/-- Whether a dependency is one of a table, its columns in range. -/
def depIn (name : ByteArray) (f : DDp) : Bool := decide (f.1 = name) && (betw f.2.2 0 2 && f.2.1.all (fun c => betw c 0 2))
/-- Whether columns are among those of a set. -/
def subM (m : Nat) (cs : List Int) : Bool := cs.all (fun c => bitAt m c.toNat)
/-- A dependency taken. -/
def stepM (name : ByteArray) (m : Nat) (f : DDp) : Nat := if depIn name f && subM m f.2.1 then m ||| 2 ^ f.2.2.toNat else m
/-- All dependencies taken once. -/
def passM (name : ByteArray) (ds : List DDp) (m : Nat) : Nat := ds.foldl (stepM name) m
/-- The closure of a set. -/
def clo (name : ByteArray) (ds : List DDp) (m : Nat) : Nat := passM name ds (passM name ds (passM name ds m))
/-- The set of columns in range. -/
def maskIn (cs : List Int) : Nat := (if has cs 0 then 1 else 0) ||| ((if has cs 1 then 2 else 0) ||| (if has cs 2 then 4 else 0))
/-- ColumnClosure. -/
def closure (ds : List DDp) (name : ByteArray) (cs : List Int) : List Int := bitsTo (clo name ds (maskIn cs)) 3

theorem depIn_to {name : ByteArray} {f : DDp} (h : depIn name f = true) : 0 ≤ f.2.2 ∧ f.2.2 ≤ 2 := by
  simp only [depIn, Bool.and_eq_true, betw, decide_eq_true_eq] at h
  exact h.2.1
theorem pow_to {x : Int} (h : 0 ≤ x ∧ x ≤ 2) : 2 ^ x.toNat < 8 := by
  obtain ⟨h1, h2⟩ := h
  have : x = 0 ∨ x = 1 ∨ x = 2 := by omega
  rcases this with rfl | rfl | rfl <;> decide
theorem stepM_lt {name : ByteArray} {m : Nat} {f : DDp} (hm : m < 8) : stepM name m f < 8 := by
  unfold stepM
  split
  · rename_i h
    rw [Bool.and_eq_true] at h
    exact Nat.or_lt_two_pow (n := 3) hm (pow_to (depIn_to h.1))
  · exact hm
theorem passM_lt {name : ByteArray} : ∀ {ds : List DDp} {m : Nat}, m < 8 → passM name ds m < 8
  | [], m, h => h
  | f :: t, m, h => passM_lt (ds := t) (stepM_lt h)
theorem and_absorb (m x : Nat) : m &&& (m ||| x) = m := by
  apply Nat.eq_of_testBit_eq; intro i
  rw [Nat.testBit_and, Nat.testBit_or]; cases m.testBit i <;> simp
theorem stepM_sub (name : ByteArray) (m : Nat) (f : DDp) : m &&& stepM name m f = m := by
  unfold stepM
  split
  · exact and_absorb m _
  · exact Nat.and_self m
theorem sub_trans {a b c : Nat} (h : a &&& b = a) (k : b &&& c = b) : a &&& c = a := by
  rw [← h, Nat.and_assoc, k]
theorem passM_sub (name : ByteArray) : ∀ (ds : List DDp) (m : Nat), m &&& passM name ds m = m
  | [], m => Nat.and_self m
  | f :: t, m => sub_trans (stepM_sub name m f) (passM_sub name t _)
def cnt3 (m : Nat) : Nat := m % 2 + m / 2 % 2 + m / 4 % 2
theorem cnt3_lt : ∀ a b : Fin 8, a.val &&& b.val = a.val → a ≠ b → cnt3 a.val < cnt3 b.val := by decide
theorem cnt3_top : ∀ a : Fin 8, 3 ≤ cnt3 a.val → a.val = 7 := by decide
theorem sub_top : ∀ a : Fin 8, 7 &&& a.val = 7 → a.val = 7 := by decide
theorem cnt3_sub {a b : Nat} (ha : a < 8) (hb : b < 8) (h : a &&& b = a) (hne : b ≠ a) : cnt3 a < cnt3 b :=
  cnt3_lt ⟨a, ha⟩ ⟨b, hb⟩ h (fun e => hne (by have := congrArg Fin.val e; exact this.symm))
/-- The closure is closed. -/
theorem clo_fix {name : ByteArray} {ds : List DDp} {m : Nat} (hm : m < 8) : passM name ds (clo name ds m) = clo name ds m := by
  unfold clo
  obtain ⟨p, hp⟩ : ∃ p, p = passM name ds := ⟨_, rfl⟩
  have hlt : ∀ x, x < 8 → p x < 8 := by rw [hp]; exact fun x h => passM_lt h
  have hsub : ∀ x, x &&& p x = x := by rw [hp]; exact fun x => passM_sub name ds x
  rw [← hp]
  by_cases h1 : p m = m
  · rw [h1, h1, h1, h1]
  by_cases h2 : p (p m) = p m
  · rw [h2, h2, h2]
  by_cases h3 : p (p (p m)) = p (p m)
  · rw [h3, h3]
  have l1 := hlt m hm
  have l2 := hlt _ l1
  have l3 := hlt _ l2
  have c1 := cnt3_sub hm l1 (hsub m) h1
  have c2 := cnt3_sub l1 l2 (hsub _) h2
  have c3 := cnt3_sub l2 l3 (hsub _) h3
  have h7 : p (p (p m)) = 7 := cnt3_top ⟨_, l3⟩ (by show 3 ≤ cnt3 (p (p (p m))); omega)
  have h8 := hsub (p (p (p m)))
  rw [h7] at h8 ⊢
  exact sub_top ⟨p 7, hlt 7 (by omega)⟩ h8
theorem clo_pass {name : ByteArray} {ds : List DDp} {m : Nat} (hm : m < 8) : clo name ds (passM name ds m) = clo name ds m := by
  have h := clo_fix (name := name) (ds := ds) hm
  show passM name ds (passM name ds (passM name ds (passM name ds m))) = _
  exact h
theorem clo_stop {name : ByteArray} {ds : List DDp} {m : Nat} (h : passM name ds m = m) : clo name ds m = m := by
  unfold clo; rw [h, h, h]
theorem clo_lt {name : ByteArray} {ds : List DDp} {m : Nat} (hm : m < 8) : clo name ds m < 8 := passM_lt (passM_lt (passM_lt hm))
theorem maskIn_lt (cs : List Int) : maskIn cs < 8 := by
  unfold maskIn; split <;> split <;> split <;> decide
theorem passM_at {name : ByteArray} {ds : List DDp} {m j : Nat} {f : DDp} (h : ds[j]? = some f) : passM name (ds.drop j) m = passM name (ds.drop (j + 1)) (stepM name m f) := by
  obtain ⟨h1, rfl⟩ := List.getElem?_eq_some_iff.1 h
  rw [List.drop_eq_getElem_cons h1]; rfl
theorem passM_end {name : ByteArray} {ds : List DDp} {m j : Nat} (h : ds.length ≤ j) : passM name (ds.drop j) m = m := by
  rw [List.drop_eq_nil_of_le h]; rfl

/-- A list that holds the columns of a set, each once. -/
structure Got (l : List Int) (m : Nat) : Prop where
  lt : m < 8
  nodup : l.Nodup
  rng : ∀ c ∈ l, 0 ≤ c ∧ c ≤ 2
  bit : ∀ j : Nat, j < 3 → bitAt m j = has l (j : Int)
theorem bitAt_or (m x j : Nat) : bitAt (m ||| x) j = (bitAt m j || bitAt x j) := by
  rw [bitAt_testBit, bitAt_testBit, bitAt_testBit, Nat.testBit_or]
theorem bitAt_pow (k j : Nat) : bitAt (2 ^ k) j = decide (k = j) := by
  rw [bitAt_testBit, Nat.testBit_two_pow]
theorem Got.add {l : List Int} {m : Nat} {c : Int} (h : Got l m) (hc : 0 ≤ c ∧ c ≤ 2) (hn : has l c = false) : Got (l ++ [c]) (m ||| 2 ^ c.toNat) := by
  refine ⟨Nat.or_lt_two_pow (n := 3) h.lt (pow_to hc), ?_, ?_, ?_⟩
  · rw [List.nodup_append]
    refine ⟨h.nodup, by simp, ?_⟩
    intro a ha b hb e
    simp only [List.mem_singleton] at hb
    subst hb; subst e
    simp [has, ha] at hn
  · intro a ha
    rcases List.mem_append.1 ha with ha | ha
    · exact h.rng a ha
    · simp only [List.mem_singleton] at ha; subst ha; exact hc
  · intro j hj
    rw [bitAt_or, h.bit j hj, bitAt_pow]
    unfold has
    rw [Bool.eq_iff_iff]
    simp only [Bool.or_eq_true, decide_eq_true_eq, List.mem_append, List.mem_singleton]
    constructor
    · rintro (h | h)
      · exact .inl h
      · exact .inr (by omega)
    · rintro (h | h)
      · exact .inl h
      · exact .inr (by omega)
theorem Got.old {l : List Int} {m : Nat} {c : Int} (h : Got l m) (hc : 0 ≤ c ∧ c ≤ 2) (hn : has l c = true) : m ||| 2 ^ c.toNat = m := by
  have h1 := h.bit c.toNat (by omega)
  rw [show ((c.toNat : Nat) : Int) = c by omega, hn] at h1
  apply Nat.eq_of_testBit_eq; intro i
  rw [Nat.testBit_or, Nat.testBit_two_pow]
  by_cases e : c.toNat = i
  · subst e; rw [bitAt_testBit] at h1; simp [h1]
  · simp [e]
theorem Got.sub {l : List Int} {m : Nat} {cs : List Int} (h : Got l m) (hc : ∀ c ∈ cs, 0 ≤ c ∧ c ≤ 2) : decide ((both cs l).length = cs.length) = subM m cs := by
  rw [Bool.eq_iff_iff]
  simp only [decide_eq_true_eq, subM, List.all_eq_true, both, List.length_filter_eq_length_iff]
  refine forall_congr' fun c => forall_congr' fun hm => ?_
  have hr := hc c hm
  have h1 := h.bit c.toNat (by omega)
  rw [show ((c.toNat : Nat) : Int) = c by omega] at h1
  rw [h1]
/-- The columns in order. -/
theorem bitsTo_sorted (m : Nat) : ∀ n, (bitsTo m n).Pairwise (· ≤ ·) ∧ (bitsTo m n).Nodup ∧ ∀ c, c ∈ bitsTo m n ↔ ∃ j : Nat, j < n ∧ c = (j : Int) ∧ bitAt m j = true
  | 0 => by simp [bitsTo]
  | n + 1 => by
    obtain ⟨h1, h2, h3⟩ := bitsTo_sorted m n
    by_cases hb : bitAt m n = true
    · rw [bitsTo_yes hb]
      refine ⟨?_, ?_, ?_⟩
      · rw [List.pairwise_append]
        refine ⟨h1, by simp, ?_⟩
        intro a ha b hb'
        simp only [List.mem_singleton] at hb'
        subst hb'
        obtain ⟨j, hj, rfl, _⟩ := (h3 a).1 ha
        omega
      · rw [List.nodup_append]
        refine ⟨h2, by simp, ?_⟩
        intro a ha b hb' e
        simp only [List.mem_singleton] at hb'
        subst hb'; subst e
        obtain ⟨j, hj, e2, _⟩ := (h3 _).1 ha
        omega
      · intro c
        simp only [List.mem_append, List.mem_singleton, h3]
        constructor
        · rintro (⟨j, hj, rfl, hb'⟩ | rfl)
          · exact ⟨j, by omega, rfl, hb'⟩
          · exact ⟨n, by omega, rfl, hb⟩
        · rintro ⟨j, hj, rfl, hb'⟩
          by_cases e : j = n
          · subst e; exact .inr rfl
          · exact .inl ⟨j, by omega, rfl, hb'⟩
    · rw [bitsTo_no (by simpa using hb)]
      refine ⟨h1, h2, fun c => ?_⟩
      rw [h3]
      constructor
      · rintro ⟨j, hj, rfl, hb'⟩; exact ⟨j, by omega, rfl, hb'⟩
      · rintro ⟨j, hj, rfl, hb'⟩
        by_cases e : j = n
        · subst e; exact absurd hb' hb
        · exact ⟨j, by omega, rfl, hb'⟩
theorem Got.perm {l : List Int} {m : Nat} (h : Got l m) : l.Perm (bitsTo m 3) := by
  obtain ⟨h1, h2, h3⟩ := bitsTo_sorted m 3
  refine (List.perm_ext_iff_of_nodup h.nodup h2).2 fun c => ?_
  rw [h3]
  constructor
  · intro hc
    have hr := h.rng c hc
    refine ⟨c.toNat, by omega, by omega, ?_⟩
    rw [h.bit _ (by omega), show ((c.toNat : Nat) : Int) = c by omega]
    simp [has, hc]
  · rintro ⟨j, hj, rfl, hb⟩
    rw [h.bit j hj] at hb
    simpa [has] using hb
theorem Got.len {l : List Int} {m : Nat} (h : Got l m) : l.length ≤ 3 := by
  rw [h.perm.length_eq]; exact bitsTo_len m 3
theorem Got.sorted {l s : List Int} {m : Nat} (h : Got l m) (hp : s.Perm l) (hs : s.Pairwise (· ≤ ·)) : s = bitsTo m 3 :=
  List.Perm.eq_of_pairwise (le := (· ≤ ·)) (fun a b _ _ => Int.le_antisymm) hs (bitsTo_sorted m 3).1 (hp.trans h.perm)

end Go.Proofs.Ytbkoddikfpkocaa

/- Contracts: closures of columns, by the program. -/
namespace Go.Proofs.Ytbkoddikfpkocaa
open Go.RowKit
set_option linter.unusedVariables false
set_option linter.unusedSimpArgs false
set_option synthInstance.maxSize 2000
set_option synthInstance.maxHeartbeats 400000

theorem isColumn_any (x : Int) (w : World) :
    Calls Try.prog 125 #[.int .i64 x] w fun e w' => e = .returned (.bool (betw x 0 2)) ∧ w = w' := by
  go_enter Try.func125, Try.ntmps125
  go_wp2_with (refine (within_any _ _ _ _).mono ?_; rintro e w' ⟨rfl, rfl⟩)
  go_ret
  exact ⟨rfl, rfl⟩
theorem colFn_any (x : Int) (w : World) :
    Calls Try.prog 127 #[.int .i64 x] w fun e w' => e = .returned (.bool (!betw x 0 2)) ∧ w = w' := by
  go_enter Try.func127, Try.ntmps127
  go_wp2_with (refine (isColumn_any _ _).mono ?_; rintro e w' ⟨rfl, rfl⟩)
  go_ret
  exact ⟨rfl, rfl⟩
/-- The place of the first column out of range, from place j on. -/
def outFrom (j : Nat) : List Int → Int
  | [] => -1
  | x :: t => if betw x 0 2 then outFrom (j + 1) t else (j : Int)
theorem outFrom_at {xs : List Int} {j : Nat} {x : Int} (hj : j < xs.length) (hx : xs.getD j 0 = x) : outFrom j (xs.drop j) = if betw x 0 2 then outFrom (j + 1) (xs.drop (j + 1)) else (j : Int) := by
  rw [drop_cons xs j hj, hx]; rfl
theorem outFrom_end {xs : List Int} {j : Nat} (hj : xs.length ≤ j) : outFrom j (xs.drop j) = -1 := by
  rw [List.drop_eq_nil_of_le hj]; rfl
theorem outFrom_all : ∀ {xs : List Int} {j : Nat}, decide (0 ≤ outFrom j xs) = !xs.all (fun c => betw c 0 2)
  | [], j => by simp [outFrom]
  | x :: t, j => by
    unfold outFrom
    by_cases h : betw x 0 2 = true
    · simp only [h, if_true, List.all_cons, Bool.true_and]; exact outFrom_all
    · simp [h]
set_option maxHeartbeats 1000000 in
theorem outIdx_any (a : Option Addr) (n cap : Nat) (xs : List Int) (w : World) (h : Ints w a n xs) :
    Calls Try.prog 182 #[.slice a n cap, .func (.func 127) #[] #[]] w fun e w' => e = .returned (.int .i64 (outFrom 0 xs)) ∧ w = w' := by
  have hl := h.len
  have hn := h.small
  have HV : Hid (outFrom 0 xs = outFrom 0 (xs.drop 0)) := rfl
  have hb0 : Below w.heap.size w w := Below.refl _ _
  go_enter Try.func182, Try.ntmps182
  go_wp2_with fail
  go_loopw [8] (fun k wr => ∃ j : Nat, j ≤ n ∧ k = .int .i64 j ∧ Hid (outFrom 0 xs = outFrom j (xs.drop j)) ∧ w = wr) (fun k _ => n - (intOf k).toNat)
  case atStart => exact ⟨0, Nat.zero_le _, rfl, HV.out, rfl⟩
  case round =>
    obtain ⟨j, hj, rfl, hE, rfl⟩ := hrel
    by_cases hlt : j < n
    · obtain ⟨b0, o0, x, rfl, hc, hx, _, _⟩ := h.get hlt
      have c0_lt : b0 < w.heap.size := cell_lt hc
      have c0 : w.cell? ⟨b0, o0 + j, none⟩ = some (.int .i64 x) := (hb0.cell (p := ⟨b0, o0 + j, none⟩) c0_lt).trans hc
      have HA := Lib.hid (hE.out.trans (outFrom_at (by omega) hx.out))
      have hcall := colFn_any x w
      obtain ⟨t, ht⟩ : ∃ t, t = betw x 0 2 := ⟨_, rfl⟩
      rw [← ht] at HA hcall
      have HC := Lib.hid hcall
      clear hE HV hl h hcall ht hx hc
      cases t with
      | true =>
        have HE := Lib.hid (show outFrom 0 xs = outFrom (j + 1) (xs.drop (j + 1)) by rw [HA.out]; rfl)
        go_wp2_with (go_at_call 127; refine HC.out.mono ?_; rintro e w' ⟨rfl, rfl⟩)
        go_roundw
        case rel => exact ⟨j + 1, by omega, by go_num, HE.out, trivial⟩
        case measure => simp [intOf]; omega
      | false =>
        have HE := Lib.hid (show outFrom 0 xs = (j : Int) by rw [HA.out]; rfl)
        go_wp2_with (go_at_call 127; refine HC.out.mono ?_; rintro e w' ⟨rfl, rfl⟩)
        go_ret
        exact ⟨ret_int HE.out.symm, rfl⟩
    · have HE := Lib.hid (hE.out.trans (outFrom_end (by omega)))
      clear hE HV hl h
      go_wp2_with fail
      go_ret
      exact ⟨ret_int HE.out.symm, rfl⟩
theorem outFn_any (a : Option Addr) (n cap : Nat) (xs : List Int) (w : World) (h : Ints w a n xs) :
    Calls Try.prog 126 #[.slice a n cap, .func (.func 127) #[] #[]] w fun e w' => e = .returned (.bool (!xs.all (fun c => betw c 0 2))) ∧ w = w' := by
  have H := Lib.hid (outFrom_all (xs := xs) (j := 0))
  have HC := Lib.hid (outIdx_any a n cap xs w h)
  clear h
  go_enter Try.func126, Try.ntmps126
  go_wp2_with (go_at_call 182; refine HC.out.mono ?_; rintro e w' ⟨rfl, rfl⟩)
  go_ret
  exact ⟨ret_bool H.out, rfl⟩
/-- impl.contains: whether a list has all of another one. -/
theorem hasAll_any (u v : Value) (xs ys : List Int) (w : World) (h : rI.rep w [u] xs) (h' : rI.rep w [v] ys) (hn : ys.length ≤ 1048576) :
    Calls Try.prog 128 #[u, v] w fun e w' => e = .returned (.bool (decide ((both ys xs).length = ys.length))) ∧ Below w.heap.size w w' := by
  obtain ⟨a, cap, rfl, _, _, hi⟩ := rI_open h
  obtain ⟨a', cap', rfl, _, _, hi'⟩ := rI_open h'
  have HC := Lib.hid (both_any _ _ ys xs w h' h hn)
  clear h h' hi hi'
  have hb0 : Below w.heap.size w w := Below.refl _ _
  go_enter Try.func128, Try.ntmps128
  go_wp2_with fail
  refine HC.out.mono ?_
  rintro e w9 ⟨u, rfl, ho, z9⟩
  obtain ⟨vb, vn, vc, rfl⟩ := oI_form1 ho
  have hln := (rI_ints (ho.rd reads_I)).len
  clear ho
  go_wp2_with fail
  go_ret
  refine ⟨ret_bool ?_, z9⟩
  rw [hln, Bool.eq_iff_iff, beq_iff_eq, decide_eq_true_eq]; omega

def lenOf : Value → Nat
  | .slice _ n _ => n
  | _ => 0
def flagOf : Value → Nat
  | .bool true => 1
  | _ => 0
theorem maskIn_bit (cs : List Int) : ∀ j : Nat, j < 3 → bitAt (maskIn cs) j = has cs (j : Int) := by
  intro j hj
  have hb : ∀ a b c : Bool, ∀ k : Fin 3, bitAt ((if a then 1 else 0) ||| ((if b then 2 else 0) ||| (if c then 4 else 0))) k.val = (if k.val = 0 then a else if k.val = 1 then b else c) := by decide
  have h9 := hb (has cs 0) (has cs 1) (has cs 2) ⟨j, hj⟩
  rw [maskIn, h9]
  have : j = 0 ∨ j = 1 ∨ j = 2 := by omega
  rcases this with rfl | rfl | rfl <;> rfl
theorem got_bits {m : Nat} (h : m < 8) : Got (bitsTo m 3) m := by
  obtain ⟨h1, h2, h3⟩ := bitsTo_sorted m 3
  refine ⟨h, h2, fun c hc => ?_, fun j hj => ?_⟩
  · obtain ⟨j, hj, rfl, _⟩ := (h3 c).1 hc; omega
  · rw [Bool.eq_iff_iff]
    simp only [has, decide_eq_true_eq, h3]
    constructor
    · intro hb; exact ⟨j, hj, rfl, hb⟩
    · rintro ⟨i, _, e, hb⟩
      have : i = j := by omega
      subst this; exact hb

end Go.Proofs.Ytbkoddikfpkocaa

/- Contracts: closures of columns, by the program (2). -/
namespace Go.Proofs.Ytbkoddikfpkocaa
open Go.RowKit
set_option linter.unusedVariables false
set_option linter.unusedSimpArgs false
set_option synthInstance.maxSize 2000
set_option synthInstance.maxHeartbeats 400000

set_option maxRecDepth 100000 in
set_option maxHeartbeats 4000000 in
theorem closure_impl (a : Option Addr) (n cap : Nat) (ds : List DDp) (name : ByteArray) (b : Option Addr) (cn cc : Nat) (cols : List Int) (w : World) (h : Sl rDp w a n ds) (h' : Ints w b cn cols) (hbf : ∀ f ∈ ds, f.2.1.length ≤ 1048576) :
    Calls Try.prog 54 #[.slice a n cap, .string name, .slice b cn cc] w fun e w' => ∃ u, e = .returned u ∧ Own oI w.heap.size w'.heap.size w' [u] (closure ds name cols) ∧ Below w.heap.size w w' := by
  have hl := h.len
  have hn := h.small
  have HBF := Lib.hid hbf
  obtain ⟨M, hM⟩ : ∃ M, M = maskIn cols := ⟨_, rfl⟩
  have hM8 : M < 8 := by rw [hM]; exact maskIn_lt cols
  have HMb := Lib.hid (show ∀ j : Nat, j < 3 → bitAt M j = has cols (j : Int) by rw [hM]; exact maskIn_bit cols)
  have HV : Hid (closure ds name cols = bitsTo (clo name ds M) 3) := Lib.hid (by rw [closure, hM])
  clear hM hbf
  have hb0 : Below w.heap.size w w := Below.refl _ _
  go_enter Try.func54, Try.ntmps54
  go_wp2_with fail
  obtain ⟨w1, hw1⟩ : ∃ W, W = w.alloc (.cells #[] 3) := ⟨_, rfl⟩
  have z1 : Below w.heap.size w w1 := by rw [hw1]; exact (Below.refl _ _).alloc (Nat.le_refl _) _
  have s1 : w1.heap.size = w.heap.size + 1 := by rw [hw1]; simp
  have hb1 := on hb0 z1
  have he : ∀ S, Acc 3 O.int w.heap.size S w1.heap.size w1 (.slice (some ⟨w.heap.size, 0, none⟩) 0 0) [] := fun S => by rw [hw1]; exact Acc.empty (by omega) (by first | (simp; done) | (simp; omega))
  go_wp2_with fail
  rw [← hw1]
  clear hw1
  go_loopw [7, 8] (fun v k wr => ∃ j : Nat, j ≤ 3 ∧ k = .int .i64 j ∧ Acc 3 O.int w.heap.size w1.heap.size wr.heap.size wr v (bitsTo M j) ∧ Turn w.heap.size (w.heap.size + 1) w1 wr) (fun _ k _ => 3 - (intOf k).toNat)
  case atStart => exact ⟨0, Nat.zero_le _, rfl, (he _).wide (Nat.le_refl _) (by omega), turn_refl _ _ _⟩
  case round =>
    obtain ⟨j, hj, rfl, hacc, hdr⟩ := hrel
    have hlc := hdr
    obtain ⟨wo, rfl⟩ : ∃ W, W = wr := ⟨_, rfl⟩
    have hbx := (hb1).trans ((hdr.below (by omega)).mono (by omega))
    have sx := hdr.size
    have hbl := bitsTo_len M j
    by_cases hlt : j < 3
    · have hcc := contains_any b cn cc cols (j : Int) wo (h'.below hbx)
      rw [← HMb.out j hlt] at hcc
      obtain ⟨t, ht⟩ : ∃ t, t = bitAt M j := ⟨_, rfl⟩
      rw [← ht] at hcc
      have HC := Lib.hid hcc
      clear hcc
      cases t with
      | true =>
        have HB := Lib.hid (bitsTo_yes ht.symm)
        clear ht h h' hl
        go_wp2_with (first
          | (go_at_call 124; refine (HC.out).mono ?_; rintro e w' ⟨rfl, rfl⟩)
          | (at_builtin; refine wpList_accI _ _ _ _ _ hacc hlc rfl (by omega) (Nat.le_refl _) ⟨by omega, by omega⟩ (by omega) rfl rfl rfl rfl rfl ?_; intro v' w1 hacc' ht' hsz'))
        rw [← HB.out] at hacc'
        go_roundw
        case rel => exact ⟨j + 1, by omega, by go_num, hacc', ht'⟩
        case measure => simp [intOf]; omega
      | false =>
        rw [← bitsTo_no ht.symm] at hacc
        have HO := Lib.hid hacc
        clear ht h h' hl hacc
        go_wp2_with (go_at_call 124; refine (HC.out).mono ?_; rintro e w' ⟨rfl, rfl⟩)
        go_roundw
        case rel => exact ⟨j + 1, by omega, by go_num, HO.out, hlc⟩
        case measure => simp [intOf]; omega
    · have hj3 : j = 3 := by omega
      rw [hj3] at hacc
      have hgot := got_bits hM8
      obtain ⟨g0, hg0⟩ : ∃ g, g = bitsTo M 3 := ⟨_, rfl⟩
      rw [← hg0] at hacc hgot
      have HG := Lib.hid hgot
      have HA := Lib.hid hacc
      clear hacc hgot hg0 hbl HMb h' hj3
      go_wp2_with fail
      go_loopw [7, 9] (fun v k wr => ∃ (m : Nat) (g : List Int) (again : Bool), Hid (Got g m) ∧ k = .bool again ∧ Hid (closure ds name cols = bitsTo (clo name ds m) 3) ∧ Hid (again = false → passM name ds m = m) ∧ Acc 3 O.int w.heap.size w1.heap.size wr.heap.size wr v g ∧ Turn w.heap.size (w.heap.size + 1) w1 wr) (fun v k _ => (3 - lenOf v) * 2 + flagOf k)
      case atStart => exact ⟨M, g0, true, HG, rfl, HV, Lib.hid (fun h => by cases h), HA.out, hlc⟩
      case round =>
        obtain ⟨m, g, again, hG, rfl, hE, hst, hacc, hdr⟩ := hrel
        have hld := hdr
        obtain ⟨wi, rfl⟩ : ∃ W, W = wr := ⟨_, rfl⟩
        clear HA HG HV
        have hbz := (hb1).trans ((hdr.below (by omega)).mono (by omega))
        have sz := hdr.size
        obtain ⟨va, vcap, rfl⟩ := hacc.form
        have hgl := hG.out.len
        cases again with
        | false =>
          have HR : Hid (closure ds name cols = bitsTo m 3) := Lib.hid (by rw [hE.out, clo_stop (hst.out rfl)])
          have HO := Lib.hid (hacc.own (B := w.heap.size) (by omega) (by omega) (Nat.le_refl _))
          have hszb := (hbz).size
          clear hacc hst hE h hl
          go_wp2_with fail
          refine (sortI_any _ _ _ _ _ HO.out (by omega) hszb).mono ?_
          rintro e wE ⟨rfl, o3, zE⟩
          have sE := zE.size
          go_wp2_with fail
          go_ret
          exact ⟨_, rfl, by rw [HR.out, ← hG.out.sorted (by unfold sortL; exact List.mergeSort_perm _ _) (sortL_pair _)]; exact o3.mono (Nat.le_refl _) (by omega), (hbz).trans zE⟩
        | true =>
          have HP : Hid (passM name ds m = passM name (ds.drop 0) m) := rfl
          go_wp2_with fail
          go_loopw [7, 9, 28] (fun v k i wr => ∃ (j m' : Nat) (g' : List Int) (again : Bool), j ≤ n ∧ i = .int .i64 j ∧ Hid (Got g' m') ∧ k = .bool again ∧ Hid (passM name ds m = passM name (ds.drop j) m') ∧ Hid (again = false → m' = m ∧ g'.length = g.length) ∧ Hid (again = true → g.length < g'.length) ∧ Acc 3 O.int w.heap.size w1.heap.size wr.heap.size wr v g' ∧ Turn w.heap.size (w.heap.size + 1) w1 wr) (fun _ _ i _ => n - (intOf i).toNat)
          case atStart => exact ⟨0, m, g, false, Nat.zero_le _, rfl, hG, rfl, HP, Lib.hid (fun _ => ⟨rfl, rfl⟩), Lib.hid (fun h => by cases h), hacc, hld⟩
          case round =>
            obtain ⟨i, m', g', again, hi, rfl, hG', rfl, hF, hno, hyes, hacc', hdr⟩ := hrel
            have hle := hdr
            clear HP hacc
            have hby := (hb1).trans ((hdr.below (by omega)).mono (by omega))
            have sy := hdr.size
            obtain ⟨va', vcap', rfl⟩ := hacc'.form
            have hgl' := hG'.out.len
            by_cases hlti : i < n
            · obtain ⟨b1, o1, cs, f, rfl, hx, hr, hc⟩ := h.at hlti
              obtain ⟨m1, fr, to⟩ := f
              obtain ⟨fb, fn, fc, rfl, hs0, gf, hto⟩ := rDp_open hr
              simp only at hs0 gf hto
              have i0 := rI_ints gf
              obtain ⟨hfc1, hfc2⟩ := rS_cap gf
              have hfl := i0.len
              have hbfl : fr.length ≤ 1048576 := HBF.out _ (List.mem_of_getElem? hx.out)
              have e_lt : b1 < w.heap.size := cell_lt (hc 0 _ rfl)
              have e_0 : wr.cell? ⟨b1, o1 + i * 3, none⟩ = some (.string m1) := (hby.cell (p := ⟨b1, o1 + i * 3, none⟩) e_lt).trans (by have h9 := hc 0 _ rfl; rw [← Nat.add_assoc] at h9; exact h9)
              have e_1 : wr.cell? ⟨b1, o1 + i * 3 + 1, none⟩ = some (.slice fb fn fc) := (hby.cell (p := ⟨b1, o1 + i * 3 + 1, none⟩) e_lt).trans (by have h9 := hc 1 _ rfl; rw [← Nat.add_assoc] at h9; exact h9)
              have e_2 : wr.cell? ⟨b1, o1 + i * 3 + 2, none⟩ = some (.int .i64 to) := (hby.cell (p := ⟨b1, o1 + i * 3 + 2, none⟩) e_lt).trans (by have h9 := hc 2 _ rfl; rw [← Nat.add_assoc] at h9; exact h9)
              have HS := Lib.hid (hF.out.trans (passM_at hx.out))
              clear hc hx hr hs0 hF hl
              obtain ⟨w2, hw2⟩ : ∃ W, W = wr.alloc (.cells #[.string m1, .slice fb fn fc, .int .i64 to] 125) := ⟨_, rfl⟩
              have z2 : Below wr.heap.size wr w2 := by rw [hw2]; exact (Below.refl _ _).alloc (Nat.le_refl _) _
              have s2 : w2.heap.size = wr.heap.size + 1 := by rw [hw2]; simp
              have hb2 := on hby z2
              have old2_e_0 := e_0
              have old2_e_1 := e_1
              have old2_e_2 := e_2
              replace e_0 := (z2.cell (p := ⟨b1, o1 + i * 3, none⟩) (by simp only []; omega)).trans e_0
              replace e_1 := (z2.cell (p := ⟨b1, o1 + i * 3 + 1, none⟩) (by simp only []; omega)).trans e_1
              replace e_2 := (z2.cell (p := ⟨b1, o1 + i * 3 + 2, none⟩) (by simp only []; omega)).trans e_2
              replace hacc' := hacc'.below z2 (by omega)
              replace hle := hle.trans (turn_below z2 (Nat.le_refl _))
              have f_0 : w2.cell? ⟨wr.heap.size, 0, none⟩ = some (.string m1) := by rw [hw2]; exact box_cell (Below.refl _ _) rfl
              have f_1 : w2.cell? ⟨wr.heap.size, 1, none⟩ = some (.slice fb fn fc) := by rw [hw2]; exact box_cell (Below.refl _ _) rfl
              have f_2 : w2.cell? ⟨wr.heap.size, 2, none⟩ = some (.int .i64 to) := by rw [hw2]; exact box_cell (Below.refl _ _) rfl
              have raw2_e_0 := e_0
              have raw2_e_1 := e_1
              have raw2_e_2 := e_2
              have raw2_f_0 := f_0
              have raw2_f_1 := f_1
              have raw2_f_2 := f_2
              rw [hw2] at raw2_e_0 raw2_e_1 raw2_e_2 raw2_f_0 raw2_f_1 raw2_f_2
              have hic := fun W => isColumn_any to W
              have hof := fun W (hW : Below w.heap.size w W) => outFn_any fb fn fc fr W (i0.below hW)
              obtain ⟨p, hp⟩ : ∃ p, betw to 0 2 = p := ⟨_, rfl⟩
              obtain ⟨q, hq⟩ : ∃ q, fr.all (fun c => betw c 0 2) = q := ⟨_, rfl⟩
              have hgg : g.length ≤ g'.length := by
                cases again with
                | false => have := (hno.out rfl).2; omega
                | true => have := hyes.out rfl; omega
              have HST : Hid (passM name ds m = passM name (ds.drop (i + 1)) (if (decide (m1 = name) && (p && q)) && subM m' fr then m' ||| 2 ^ to.toNat else m')) := Lib.hid (by rw [HS.out, stepM, depIn, hp, hq])
              have HTO : Hid (p = true → 0 ≤ to ∧ to ≤ 2) := Lib.hid (fun h => by rw [h] at hp; simpa [betw] using hp)
              have HFR : Hid (q = true → ∀ c ∈ fr, 0 ≤ c ∧ c ≤ 2) := Lib.hid (fun h => by rw [h] at hq; intro c hc; have := List.all_eq_true.1 hq c hc; simpa [betw] using this)
              simp only [hp] at hic
              simp only [hq] at hof
              have HIC := Lib.hid hic
              have HOF := Lib.hid hof
              clear hic hof hp hq HS
              go_wp2_with fail
              rw [← hw2]
              clear hw2
              clear old2_e_0 old2_e_1 old2_e_2 raw2_e_0 raw2_e_1 raw2_e_2 raw2_f_0 raw2_f_1 raw2_f_2
              refine (HIC.out _).mono ?_
              rintro e w' ⟨rfl, rfl⟩
              cases p with
              | false =>
                have HN : Hid (passM name ds m = passM name (ds.drop (i + 1)) m') := Lib.hid (by rw [HST.out]; simp)
                by_cases hnm : m1 = name
                · have hq9 : (m1.toList == name.toList) = true := by rw [hnm]; simp
                  clear hnm
                  go_wp2_with fail
                  go_roundw
                  case rel => exact ⟨i + 1, m', g', again, by omega, by go_num, hG', rfl, HN.out, hno, hyes, hacc'.wide (Nat.le_refl _) (by omega), hle⟩
                  case measure => simp [intOf]; omega
                · have hq9 := bytes_ne hnm
                  clear hnm
                  go_wp2_with fail
                  go_roundw
                  case rel => exact ⟨i + 1, m', g', again, by omega, by go_num, hG', rfl, HN.out, hno, hyes, hacc'.wide (Nat.le_refl _) (by omega), hle⟩
                  case measure => simp [intOf]; omega
              | true =>
                go_wp2_with fail
                refine (HOF.out _ hb2).mono ?_
                rintro e w' ⟨rfl, rfl⟩
                cases q with
                | false =>
                  have HN : Hid (passM name ds m = passM name (ds.drop (i + 1)) m') := Lib.hid (by rw [HST.out]; simp)
                  by_cases hnm : m1 = name
                  · have hq9 : (m1.toList == name.toList) = true := by rw [hnm]; simp
                    clear hnm
                    go_wp2_with fail
                    go_roundw
                    case rel => exact ⟨i + 1, m', g', again, by omega, by go_num, hG', rfl, HN.out, hno, hyes, hacc'.wide (Nat.le_refl _) (by omega), hle⟩
                    case measure => simp [intOf]; omega
                  · have hq9 := bytes_ne hnm
                    clear hnm
                    go_wp2_with fail
                    go_roundw
                    case rel => exact ⟨i + 1, m', g', again, by omega, by go_num, hG', rfl, HN.out, hno, hyes, hacc'.wide (Nat.le_refl _) (by omega), hle⟩
                    case measure => simp [intOf]; omega
                | true =>
                  by_cases hnm : m1 = name
                  case neg =>
                    have HN : Hid (passM name ds m = passM name (ds.drop (i + 1)) m') := Lib.hid (by rw [HST.out]; simp [hnm])
                    have hq9 := bytes_ne hnm
                    clear hnm
                    go_wp2_with fail
                    go_roundw
                    case rel => exact ⟨i + 1, m', g', again, by omega, by go_num, hG', rfl, HN.out, hno, hyes, hacc'.wide (Nat.le_refl _) (by omega), hle⟩
                    case measure => simp [intOf]; omega
                  have hq9 : (m1.toList == name.toList) = true := by rw [hnm]; simp
                  have HST2 : Hid (passM name ds m = passM name (ds.drop (i + 1)) (if subM m' fr then m' ||| 2 ^ to.toNat else m')) := Lib.hid (by rw [HST.out]; simp [hnm])
                  clear hnm HST
                  have hha := hasAll_any _ _ g' fr _ ((hacc'.own (B := w.heap.size) (Nat.le_refl _) (by omega) (Nat.le_refl _)).rd reads_I) (rI_mk (i0.below hb2) hfc1 hfc2) hbfl
                  rw [hG'.out.sub (HFR.out rfl)] at hha
                  obtain ⟨u, hu⟩ : ∃ u, subM m' fr = u := ⟨_, rfl⟩
                  rw [hu] at hha HST2
                  have HHA := Lib.hid hha
                  clear hha hu
                  go_wp2_with fail
                  refine HHA.out.mono ?_
                  rintro e wG ⟨rfl, zG⟩
                  have s3 := zG.size
                  have hb3 := on hb2 zG
                  replace e_0 := (zG.cell (p := ⟨b1, o1 + i * 3, none⟩) (by simp only []; omega)).trans e_0
                  replace e_1 := (zG.cell (p := ⟨b1, o1 + i * 3 + 1, none⟩) (by simp only []; omega)).trans e_1
                  replace e_2 := (zG.cell (p := ⟨b1, o1 + i * 3 + 2, none⟩) (by simp only []; omega)).trans e_2
                  replace hacc' := hacc'.below zG (by omega)
                  replace hle := hle.trans (turn_below zG (Nat.le_refl _))
                  replace f_0 := (zG.cell (p := ⟨wr.heap.size, 0, none⟩) (by simp only []; omega)).trans f_0
                  replace f_1 := (zG.cell (p := ⟨wr.heap.size, 1, none⟩) (by simp only []; omega)).trans f_1
                  replace f_2 := (zG.cell (p := ⟨wr.heap.size, 2, none⟩) (by simp only []; omega)).trans f_2
                  clear HHA
                  cases u with
                  | false =>
                    have HN : Hid (passM name ds m = passM name (ds.drop (i + 1)) m') := Lib.hid (by rw [HST2.out]; simp)
                    go_wp2_with fail
                    go_roundw
                    case rel => exact ⟨i + 1, m', g', again, by omega, by go_num, hG', rfl, HN.out, hno, hyes, hacc'.wide (Nat.le_refl _) (by omega), hle⟩
                    case measure => simp [intOf]; omega
                  | true =>
                    have hct := contains_any _ _ vcap' g' to _ (rI_ints ((hacc'.own (B := w.heap.size) (Nat.le_refl _) (by omega) (Nat.le_refl _)).rd reads_I))
                    obtain ⟨t, ht⟩ : ∃ t, has g' to = t := ⟨_, rfl⟩
                    rw [ht] at hct
                    have HCT := Lib.hid hct
                    clear hct
                    have hto3 := HTO.out (by trivial)
                    cases t with
                    | true =>
                      have HN : Hid (passM name ds m = passM name (ds.drop (i + 1)) m') := Lib.hid (by rw [HST2.out, if_pos rfl, hG'.out.old hto3 ht])
                      clear ht
                      go_wp2_with (go_at_call 124; refine (HCT.out).mono ?_; rintro e w' ⟨rfl, rfl⟩)
                      go_roundw
                      case rel => exact ⟨i + 1, m', g', again, by omega, by go_num, hG', rfl, HN.out, hno, hyes, hacc'.wide (Nat.le_refl _) (by omega), hle⟩
                      case measure => simp [intOf]; omega
                    | false =>
                      have HN : Hid (passM name ds m = passM name (ds.drop (i + 1)) (m' ||| 2 ^ to.toNat)) := Lib.hid (by rw [HST2.out, if_pos rfl])
                      have HG2 := Lib.hid (hG'.out.add hto3 ht)
                      have HL2 : Hid (g.length < (g' ++ [to]).length) := Lib.hid (by rw [List.length_append]; simp; omega)
                      clear ht
                      go_wp2_with (first
                        | (go_at_call 124; refine (HCT.out).mono ?_; rintro e w' ⟨rfl, rfl⟩)
                        | (at_builtin; refine wpList_accI _ _ _ _ _ hacc' hle rfl (by omega) (by omega) ⟨by omega, by omega⟩ (by omega) rfl rfl rfl rfl rfl ?_; intro v' w1 hacc2 ht2 hsz2))
                      go_roundw
                      case rel => exact ⟨i + 1, _, g' ++ [to], true, by omega, by go_num, HG2, rfl, HN.out, Lib.hid (fun h => by cases h), Lib.hid (fun _ => HL2.out), hacc2, ht2⟩
                      case measure => simp [intOf]; omega
            · have HE : Hid (passM name ds m = m') := Lib.hid (hF.out.trans (passM_end (by omega)))
              clear hF
              cases again with
              | false =>
                obtain ⟨hmm, hll⟩ := hno.out rfl
                subst hmm
                have HQ : Hid (false = false → passM name ds m' = m') := Lib.hid (fun _ => HE.out)
                clear hno hyes hst hG
                go_wp2_with fail
                first
                  | (go_roundw; (case rel => exact ⟨m', g', false, hG', rfl, hE, HQ, hacc', hle⟩); (case measure => (simp [lenOf, flagOf]; omega)))
                  | fail "R1"
              | true =>
                have hll := hyes.out rfl
                have HQ : Hid (closure ds name cols = bitsTo (clo name ds m') 3) := Lib.hid (by rw [hE.out, ← HE.out, clo_pass hG.out.lt])
                clear hno hyes hst hE
                go_wp2_with fail
                first
                  | (go_roundw; (case rel => exact ⟨m', g', true, hG', rfl, HQ, Lib.hid (fun h => by cases h), hacc', hle⟩); (case measure => (simp [lenOf, flagOf]; omega)))
                  | fail "R2"

end Go.Proofs.Ytbkoddikfpkocaa

/- Contracts: closures of columns, by the reference. -/
namespace Go.Proofs.Ytbkoddikfpkocaa
open Go.RowKit
set_option linter.unusedVariables false
set_option linter.unusedSimpArgs false
set_option synthInstance.maxSize 2000
set_option synthInstance.maxHeartbeats 400000

/-- Columns laid over a set. -/
def orM (m : Nat) (cs : List Int) : Nat := cs.foldl (fun m c => if betw c 0 2 then m ||| 2 ^ c.toNat else m) m
theorem orM_at {m j : Nat} {cs : List Int} {x : Int} (hj : j < cs.length) (hx : cs.getD j 0 = x) : orM m (cs.drop j) = orM (if betw x 0 2 then m ||| 2 ^ x.toNat else m) (cs.drop (j + 1)) := by
  rw [drop_cons cs j hj, hx]; rfl
theorem orM_end {m j : Nat} {cs : List Int} (hj : cs.length ≤ j) : orM m (cs.drop j) = m := by
  rw [List.drop_eq_nil_of_le hj]; rfl
theorem betw2 {x : Int} (h : betw x 0 2 = true) : 0 ≤ x ∧ x ≤ 2 := by
  simpa [betw] using h
theorem orM_spec : ∀ {cs : List Int} {m : Nat}, m < 8 → orM m cs < 8 ∧ ∀ j : Nat, j < 3 → bitAt (orM m cs) j = (bitAt m j || has cs (j : Int))
  | [], m, h => ⟨h, fun j _ => by simp [orM, has]⟩
  | x :: t, m, h => by
    show orM (if betw x 0 2 then m ||| 2 ^ x.toNat else m) t < 8 ∧ ∀ j : Nat, j < 3 → bitAt (orM (if betw x 0 2 then m ||| 2 ^ x.toNat else m) t) j = _
    by_cases hb : betw x 0 2 = true
    · rw [if_pos hb]
      have hx := betw2 hb
      obtain ⟨h1, h2⟩ := @orM_spec t (m ||| 2 ^ x.toNat) (Nat.or_lt_two_pow (n := 3) h (pow_to hx))
      refine ⟨h1, fun j hj => ?_⟩
      rw [h2 j hj, bitAt_or, bitAt_pow, Bool.or_assoc]
      congr 1
      rw [Bool.eq_iff_iff]
      simp only [has, Bool.or_eq_true, decide_eq_true_eq, List.mem_cons]
      constructor
      · rintro (e | e)
        · exact .inl (by omega)
        · exact .inr e
      · rintro (e | e)
        · exact .inl (by omega)
        · exact .inr e
    · rw [if_neg hb]
      obtain ⟨h1, h2⟩ := @orM_spec t m h
      refine ⟨h1, fun j hj => ?_⟩
      rw [h2 j hj]
      congr 1
      rw [Bool.eq_iff_iff]
      simp only [has, decide_eq_true_eq, List.mem_cons]
      constructor
      · exact fun e => .inr e
      · rintro (e | e)
        · subst e; exact absurd (by simp [betw]; omega) hb
        · exact e
theorem eq8 : ∀ a b : Fin 8, bitAt a.val 0 = bitAt b.val 0 → bitAt a.val 1 = bitAt b.val 1 → bitAt a.val 2 = bitAt b.val 2 → a = b := by decide
theorem orM_mask (cs : List Int) : orM 0 cs = maskIn cs := by
  obtain ⟨h1, h2⟩ := @orM_spec cs 0 (by omega)
  have key : ∀ j : Nat, j < 3 → bitAt (orM 0 cs) j = bitAt (maskIn cs) j := fun j hj => by
    rw [h2 j hj, maskIn_bit cs j hj]
    have : bitAt 0 j = false := by simp [bitAt]
    rw [this, Bool.false_or]
  have := eq8 ⟨_, h1⟩ ⟨_, maskIn_lt cs⟩ (key 0 (by omega)) (key 1 (by omega)) (key 2 (by omega))
  exact congrArg Fin.val this
/-- So many passes. -/
def passN (name : ByteArray) (ds : List DDp) : Nat → Nat → Nat
  | 0, m => m
  | k + 1, m => passN name ds k (passM name ds m)
theorem passN_at {name : ByteArray} {ds : List DDp} {n m : Nat} (h : n < 3) : passN name ds (3 - n) m = passN name ds (3 - (n + 1)) (passM name ds m) := by
  rw [show 3 - n = (3 - (n + 1)) + 1 by omega]; rfl
/-- What is left of a dependency's columns to be looked at. -/
def fromM (m : Nat) (cs : List Int) : Bool := cs.all (fun c => betw c 0 2 && bitAt m c.toNat)
theorem fromM_at {m j : Nat} {cs : List Int} {x : Int} (hj : j < cs.length) (hx : cs.getD j 0 = x) : fromM m (cs.drop j) = ((betw x 0 2 && bitAt m x.toNat) && fromM m (cs.drop (j + 1))) := by
  rw [drop_cons cs j hj, hx]; rfl
theorem fromM_end {m j : Nat} {cs : List Int} (hj : cs.length ≤ j) : fromM m (cs.drop j) = true := by
  rw [List.drop_eq_nil_of_le hj]; rfl
theorem depIn_from {name m1 : ByteArray} {fr : List Int} {to : Int} {m : Nat} : (depIn name (m1, fr, to) && subM m fr) = ((decide (m1 = name) && betw to 0 2) && fromM m fr) := by
  rw [Bool.eq_iff_iff]
  simp only [depIn, subM, fromM, Bool.and_eq_true, List.all_eq_true]
  constructor
  · rintro ⟨⟨h1, h2, h3⟩, h4⟩
    exact ⟨⟨h1, h2⟩, fun c hc => ⟨h3 c hc, h4 c hc⟩⟩
  · rintro ⟨⟨h1, h2⟩, h3⟩
    exact ⟨⟨h1, h2, fun c hc => (h3 c hc).1⟩, fun c hc => (h3 c hc).2⟩
theorem and3 {x : Int} (h : 0 ≤ x ∧ x ≤ 2) : bits .and .i64 x 3 = x := by
  have : x = 0 ∨ x = 1 ∨ x = 2 := by omega
  rcases this with rfl | rfl | rfl <;> decide
theorem bitTest8 {m c : Nat} (hm : m < 8) : (bits BinOp.and IntKind.i64 ((m : Int) / 2 ^ c) 1 == 1) = bitAt m c := bit_test m c (by omega)

set_option maxRecDepth 100000 in
set_option maxHeartbeats 4000000 in
theorem closure_spec (a : Option Addr) (n cap : Nat) (ds : List DDp) (name : ByteArray) (b : Option Addr) (cn cc : Nat) (cols : List Int) (w : World) (h : Sl rDp w a n ds) (h' : Ints w b cn cols) :
    Calls Try.prog 51 #[.slice a n cap, .string name, .slice b cn cc] w fun e w' => ∃ u, e = .returned u ∧ Own oI w.heap.size w'.heap.size w' [u] (closure ds name cols) ∧ Below w.heap.size w w' := by
  have hl := h.len
  have hn := h.small
  have hl' := h'.len
  have hn' := h'.small
  have HV : Hid (maskIn cols = orM 0 (cols.drop 0)) := Lib.hid (by rw [List.drop_zero, orM_mask])
  have hb0 : Below w.heap.size w w := Below.refl _ _
  go_enter Try.func51, Try.ntmps51
  go_wp2_with fail
  go_loopw [7, 8] (fun s k wr => ∃ j m : Nat, j ≤ cn ∧ m < 8 ∧ s = .int .i64 m ∧ k = .int .i64 j ∧ Hid (maskIn cols = orM m (cols.drop j)) ∧ w = wr) (fun _ k _ => cn - (intOf k).toNat)
  case atStart => exact ⟨0, 0, Nat.zero_le _, by omega, rfl, rfl, HV.out, rfl⟩
  case round =>
    obtain ⟨j, m, hj, hm, rfl, rfl, hE, rfl⟩ := hrel
    by_cases hlt : j < cn
    · obtain ⟨b0, o0, x, rfl, hc, hx, hx1, hx2⟩ := h'.get hlt
      have c0_lt : b0 < w.heap.size := cell_lt hc
      have c0 : w.cell? ⟨b0, o0 + j, none⟩ = some (.int .i64 x) := (hb0.cell (p := ⟨b0, o0 + j, none⟩) c0_lt).trans hc
      have HA := Lib.hid (hE.out.trans (orM_at (by omega) hx.out))
      clear hE HV h h' hl hl' hc
      by_cases hb : betw x 0 2 = true
      · obtain ⟨c, rfl, hc2⟩ := betw_nat hb
        have HE : Hid (maskIn cols = orM (m ||| 2 ^ c) (cols.drop (j + 1))) := Lib.hid (by rw [HA.out, if_pos hb]; rfl)
        have hmo : m ||| 2 ^ c < 8 := Nat.or_lt_two_pow (n := 3) hm (pow_to (x := (c : Int)) ⟨by omega, by omega⟩)
        have hcall := l1In_any (c : Int) 0 2 w
        rw [hb] at hcall
        have HC := Lib.hid hcall
        clear HA hx hcall hb
        go_wp2_with fail
        refine (HC.out).mono ?_
        rintro e w' ⟨rfl, rfl⟩
        go_wp2_with fail
        go_roundw
        case rel => exact ⟨j + 1, m ||| 2 ^ c, by omega, hmo, by show Value.int _ _ = _; first | (rw [or_pow (by omega) (by omega)]) | (rw [← or_pow (m := m) (v := c) (by omega) (by omega)]; rfl), by go_num, HE.out, trivial⟩
        case measure => simp [intOf]; omega
      · have HE : Hid (maskIn cols = orM m (cols.drop (j + 1))) := Lib.hid (by rw [HA.out, if_neg hb])
        have hcall := l1In_any x 0 2 w
        rw [show betw x 0 2 = false by simpa using hb] at hcall
        have HC := Lib.hid hcall
        clear HA hx hcall hb
        go_wp2_with fail
        refine (HC.out).mono ?_
        rintro e w' ⟨rfl, rfl⟩
        go_wp2_with fail
        go_roundw
        case rel => exact ⟨j + 1, m, by omega, hm, rfl, by go_num, HE.out, trivial⟩
        case measure => simp [intOf]; omega
    · have HM : Hid (closure ds name cols = bitsTo (passN name ds (3 - 0) m) 3) := Lib.hid (by rw [closure, hE.out, orM_end (by omega)]; rfl)
      clear hE HV h' hl'
      go_wp2_with fail
      go_loopw [7, 9] (fun s k wr => ∃ j m : Nat, j ≤ 3 ∧ m < 8 ∧ s = .int .i64 m ∧ k = .int .i64 j ∧ Hid (closure ds name cols = bitsTo (passN name ds (3 - j) m) 3) ∧ w = wr) (fun _ k _ => 3 - (intOf k).toNat)
      case atStart => exact ⟨0, m, by omega, hm, rfl, rfl, HM.out, rfl⟩
      case round =>
        obtain ⟨r, m, hr3, hm, rfl, rfl, hE, rfl⟩ := hrel
        clear HM
        by_cases hlt3 : r < 3
        · have HP : Hid (passM name ds m = passM name (ds.drop 0) m) := rfl
          have HA : Hid (closure ds name cols = bitsTo (passN name ds (3 - (r + 1)) (passM name ds m)) 3) := Lib.hid (by rw [hE.out, passN_at hlt3])
          clear hE
          have hr9 : (r : Int) < 3 := by omega
          have hd3 : decide ((r : Int) < 3) = true := decide_eq_true hr9
          go_wp2_with fail
          go_loopw [7, 10] (fun s k wr => ∃ j m' : Nat, j ≤ n ∧ m' < 8 ∧ s = .int .i64 m' ∧ k = .int .i64 j ∧ Hid (passM name ds m = passM name (ds.drop j) m') ∧ w = wr) (fun _ k _ => n - (intOf k).toNat)
          case atStart => exact ⟨0, m, Nat.zero_le _, hm, rfl, rfl, HP.out, rfl⟩
          case round =>
            obtain ⟨i, m', hi, hm', rfl, rfl, hF, rfl⟩ := hrel
            clear HP
            by_cases hlti : i < n
            · obtain ⟨b1, o1, cs, f, rfl, hx, hr, hc⟩ := h.at hlti
              obtain ⟨m1, fr, to⟩ := f
              obtain ⟨fb, fn, fc, rfl, hs0, gf, hto⟩ := rDp_open hr
              simp only at hs0 gf hto
              have i0 := rI_ints gf
              have hfl := i0.len
              have hfn := i0.small
              have e_lt : b1 < w.heap.size := cell_lt (hc 0 _ rfl)
              have e_0 : w.cell? ⟨b1, o1 + i * 3, none⟩ = some (.string m1) := (hb0.cell (p := ⟨b1, o1 + i * 3, none⟩) e_lt).trans (by have h9 := hc 0 _ rfl; rw [← Nat.add_assoc] at h9; exact h9)
              have e_1 : w.cell? ⟨b1, o1 + i * 3 + 1, none⟩ = some (.slice fb fn fc) := (hb0.cell (p := ⟨b1, o1 + i * 3 + 1, none⟩) e_lt).trans (by have h9 := hc 1 _ rfl; rw [← Nat.add_assoc] at h9; exact h9)
              have e_2 : w.cell? ⟨b1, o1 + i * 3 + 2, none⟩ = some (.int .i64 to) := (hb0.cell (p := ⟨b1, o1 + i * 3 + 2, none⟩) e_lt).trans (by have h9 := hc 2 _ rfl; rw [← Nat.add_assoc] at h9; exact h9)
              have HS := Lib.hid (hF.out.trans (passM_at hx.out))
              obtain ⟨D, hD⟩ : ∃ D, D = (depIn name (m1, fr, to) && subM m' fr) := ⟨_, rfl⟩
              have HD : Hid (D = ((decide (m1 = name) && betw to 0 2) && fromM m' (fr.drop 0))) := Lib.hid (by rw [hD, depIn_from]; rfl)
              have HT : Hid (D = true → 0 ≤ to ∧ to ≤ 2) := Lib.hid (fun h => by rw [hD, Bool.and_eq_true] at h; exact depIn_to h.1)
              have HS2 : Hid (passM name ds m = passM name (ds.drop (i + 1)) (if D then m' ||| 2 ^ to.toNat else m')) := Lib.hid (by rw [HS.out, stepM, ← hD])
              clear hF HS hD hc hx hr gf hs0 hl
              obtain ⟨p, hp⟩ : ∃ p, betw to 0 2 = p := ⟨_, rfl⟩
              have hcall := l1In_any to 0 2 w
              rw [hp] at hcall HD
              have HC := Lib.hid hcall
              clear hcall hp
              by_cases hnm : m1 = name
              · have hnm' := hnm.symm
                subst hnm'
                have hq : (name.toList == name.toList) = true := by simp
                rw [decide_eq_true rfl, Bool.true_and] at HD
                go_wp2_with fail
                refine (HC.out).mono ?_
                rintro e w' ⟨rfl, rfl⟩
                go_wp2_with fail
                go_loopw [11, 12] (fun s k wr => ∃ (q : Nat) (b : Bool), q ≤ fn ∧ s = .bool b ∧ k = .int .i64 q ∧ Hid (D = (b && fromM m' (fr.drop q))) ∧ w = wr) (fun _ k _ => fn - (intOf k).toNat)
                case atStart => exact ⟨0, p, Nat.zero_le _, rfl, rfl, HD.out, rfl⟩
                case round =>
                  obtain ⟨q, b, hq, rfl, rfl, hG, rfl⟩ := hrel
                  clear HD
                  by_cases hltq : q < fn
                  · obtain ⟨b2, o2, x, rfl, hcx, hx, hx1, hx2⟩ := i0.get hltq
                    have x0_lt : b2 < w.heap.size := cell_lt hcx
                    have x0 : w.cell? ⟨b2, o2 + q, none⟩ = some (.int .i64 x) := (hb0.cell (p := ⟨b2, o2 + q, none⟩) x0_lt).trans hcx
                    have HA2 := Lib.hid (hG.out.trans (by rw [fromM_at (by omega) hx.out]))
                    clear hG hcx hx
                    cases b with
                    | false =>
                      have HE : Hid (D = (false && fromM m' (fr.drop (q + 1)))) := Lib.hid (by rw [HA2.out]; rfl)
                      go_wp2_with fail
                      first
                        | (go_roundw; (case rel => exact ⟨q + 1, false, by omega, rfl, by go_num, HE.out, trivial⟩); (case measure => (simp [intOf]; omega)))
                        | (refine ⟨?_, ?measure⟩; (iterate 30 apply Exists.intro); (repeat apply Exists.intro); refine ⟨?rel, rfl⟩; (case rel => exact ⟨q + 1, false, by omega, rfl, by go_num, HE.out, trivial⟩); (case measure => (simp [intOf]; omega)))
                    | true =>
                      by_cases hb : betw x 0 2 = true
                      · obtain ⟨c, rfl, hc2⟩ := betw_nat hb
                        have hcall2 := l1In_any (c : Int) 0 2 w
                        rw [hb] at HA2 hcall2
                        have HC2 := Lib.hid hcall2
                        have ha3 := and3 (x := (c : Int)) ⟨by omega, by omega⟩
                        have hbt := bitTest8 (c := c) hm'
                        obtain ⟨t, ht⟩ : ∃ t, bitAt m' c = t := ⟨_, rfl⟩
                        have HE : Hid (D = (t && fromM m' (fr.drop (q + 1)))) := Lib.hid (by rw [HA2.out, show bitAt m' (c : Int).toNat = t from ht]; cases t <;> rfl)
                        rw [ht] at hbt
                        clear HA2 hcall2 hb ht
                        cases t with
                        | true =>
                          go_wp2_with fail
                          refine (HC2.out).mono ?_
                          rintro e w' ⟨rfl, rfl⟩
                          go_wp2_with fail
                          first
                            | (go_roundw; (case rel => exact ⟨q + 1, true, by omega, rfl, by go_num, HE.out, trivial⟩); (case measure => (simp [intOf]; omega)))
                            | (refine ⟨?_, ?measure⟩; (iterate 30 apply Exists.intro); (repeat apply Exists.intro); refine ⟨?rel, rfl⟩; (case rel => exact ⟨q + 1, true, by omega, rfl, by go_num, HE.out, trivial⟩); (case measure => (simp [intOf]; omega)))
                        | false =>
                          go_wp2_with fail
                          refine (HC2.out).mono ?_
                          rintro e w' ⟨rfl, rfl⟩
                          go_wp2_with fail
                          first
                            | (go_roundw; (case rel => exact ⟨q + 1, false, by omega, rfl, by go_num, HE.out, trivial⟩); (case measure => (simp [intOf]; omega)))
                            | (refine ⟨?_, ?measure⟩; (iterate 30 apply Exists.intro); (repeat apply Exists.intro); refine ⟨?rel, rfl⟩; (case rel => exact ⟨q + 1, false, by omega, rfl, by go_num, HE.out, trivial⟩); (case measure => (simp [intOf]; omega)))
                      · have hcall2 := l1In_any x 0 2 w
                        have hbf : betw x 0 2 = false := by simpa using hb
                        rw [hbf] at HA2 hcall2
                        have HC2 := Lib.hid hcall2
                        have HE : Hid (D = (false && fromM m' (fr.drop (q + 1)))) := Lib.hid (by rw [HA2.out]; rfl)
                        clear HA2 hcall2 hb hbf
                        go_wp2_with fail
                        refine (HC2.out).mono ?_
                        rintro e w' ⟨rfl, rfl⟩
                        go_wp2_with fail
                        first
                          | (go_roundw; (case rel => exact ⟨q + 1, false, by omega, rfl, by go_num, HE.out, trivial⟩); (case measure => (simp [intOf]; omega)))
                          | (refine ⟨?_, ?measure⟩; (iterate 30 apply Exists.intro); (repeat apply Exists.intro); refine ⟨?rel, rfl⟩; (case rel => exact ⟨q + 1, false, by omega, rfl, by go_num, HE.out, trivial⟩); (case measure => (simp [intOf]; omega)))
                  · have HE : Hid (D = b) := Lib.hid (by rw [hG.out, fromM_end (by omega), Bool.and_true])
                    clear hG i0 hfl
                    cases b with
                    | false =>
                      have HE2 : Hid (passM name ds m = passM name (ds.drop (i + 1)) m') := Lib.hid (by rw [HS2.out, HE.out]; rfl)
                      go_wp2_with fail
                      first
                        | (go_roundw; (case rel => exact ⟨i + 1, m', by omega, hm', rfl, by go_num, HE2.out, trivial⟩); (case measure => (simp [intOf]; omega)))
                        | (refine ⟨?_, ?measure⟩; (iterate 30 apply Exists.intro); (repeat apply Exists.intro); refine ⟨?rel, rfl⟩; (case rel => exact ⟨i + 1, m', by omega, hm', rfl, by go_num, HE2.out, trivial⟩); (case measure => (simp [intOf]; omega)))
                    | true =>
                      have hto := HT.out HE.out
                      have HE2 : Hid (passM name ds m = passM name (ds.drop (i + 1)) (m' ||| 2 ^ to.toNat)) := Lib.hid (by rw [HS2.out, HE.out]; rfl)
                      have hmo : m' ||| 2 ^ to.toNat < 8 := Nat.or_lt_two_pow (n := 3) hm' (pow_to hto)
                      obtain ⟨tn, rfl⟩ : ∃ tn : Nat, to = (tn : Int) := ⟨to.toNat, by omega⟩
                      have htn : tn ≤ 2 := by omega
                      rw [Int.toNat_natCast] at HE2 hmo
                      clear hto HT HS2
                      go_wp2_with fail
                      first
                        | (go_roundw; (case rel => exact ⟨i + 1, m' ||| 2 ^ tn, by omega, hmo, by show Value.int _ _ = _; first | (rw [or_pow (by omega) (by omega)]) | (rw [← or_pow (m := m') (v := tn) (by omega) (by omega)]; rfl), by go_num, HE2.out, trivial⟩); (case measure => (simp [intOf]; omega)))
                        | (refine ⟨?_, ?measure⟩; (iterate 30 apply Exists.intro); (repeat apply Exists.intro); refine ⟨?rel, rfl⟩; (case rel => exact ⟨i + 1, m' ||| 2 ^ tn, by omega, hmo, by show Value.int _ _ = _; first | (rw [or_pow (by omega) (by omega)]) | (rw [← or_pow (m := m') (v := tn) (by omega) (by omega)]; rfl), by go_num, HE2.out, trivial⟩); (case measure => (simp [intOf]; omega)))
              · have hq := bytes_ne hnm
                rw [decide_eq_false hnm, Bool.false_and] at HD
                clear hnm HC
                go_wp2_with fail
                go_loopw [11, 12] (fun s k wr => ∃ (q : Nat) (b : Bool), q ≤ fn ∧ s = .bool b ∧ k = .int .i64 q ∧ Hid (D = (b && fromM m' (fr.drop q))) ∧ w = wr) (fun _ k _ => fn - (intOf k).toNat)
                case atStart => exact ⟨0, false, Nat.zero_le _, rfl, rfl, HD.out, rfl⟩
                case round =>
                  obtain ⟨q, b, hq, rfl, rfl, hG, rfl⟩ := hrel
                  clear HD
                  by_cases hltq : q < fn
                  · obtain ⟨b2, o2, x, rfl, hcx, hx, hx1, hx2⟩ := i0.get hltq
                    have x0_lt : b2 < w.heap.size := cell_lt hcx
                    have x0 : w.cell? ⟨b2, o2 + q, none⟩ = some (.int .i64 x) := (hb0.cell (p := ⟨b2, o2 + q, none⟩) x0_lt).trans hcx
                    have HA2 := Lib.hid (hG.out.trans (by rw [fromM_at (by omega) hx.out]))
                    clear hG hcx hx
                    cases b with
                    | false =>
                      have HE : Hid (D = (false && fromM m' (fr.drop (q + 1)))) := Lib.hid (by rw [HA2.out]; rfl)
                      go_wp2_with fail
                      first
                        | (go_roundw; (case rel => exact ⟨q + 1, false, by omega, rfl, by go_num, HE.out, trivial⟩); (case measure => (simp [intOf]; omega)))
                        | (refine ⟨?_, ?measure⟩; (iterate 30 apply Exists.intro); (repeat apply Exists.intro); refine ⟨?rel, rfl⟩; (case rel => exact ⟨q + 1, false, by omega, rfl, by go_num, HE.out, trivial⟩); (case measure => (simp [intOf]; omega)))
                    | true =>
                      by_cases hb : betw x 0 2 = true
                      · obtain ⟨c, rfl, hc2⟩ := betw_nat hb
                        have hcall2 := l1In_any (c : Int) 0 2 w
                        rw [hb] at HA2 hcall2
                        have HC2 := Lib.hid hcall2
                        have ha3 := and3 (x := (c : Int)) ⟨by omega, by omega⟩
                        have hbt := bitTest8 (c := c) hm'
                        obtain ⟨t, ht⟩ : ∃ t, bitAt m' c = t := ⟨_, rfl⟩
                        have HE : Hid (D = (t && fromM m' (fr.drop (q + 1)))) := Lib.hid (by rw [HA2.out, show bitAt m' (c : Int).toNat = t from ht]; cases t <;> rfl)
                        rw [ht] at hbt
                        clear HA2 hcall2 hb ht
                        cases t with
                        | true =>
                          go_wp2_with fail
                          refine (HC2.out).mono ?_
                          rintro e w' ⟨rfl, rfl⟩
                          go_wp2_with fail
                          first
                            | (go_roundw; (case rel => exact ⟨q + 1, true, by omega, rfl, by go_num, HE.out, trivial⟩); (case measure => (simp [intOf]; omega)))
                            | (refine ⟨?_, ?measure⟩; (iterate 30 apply Exists.intro); (repeat apply Exists.intro); refine ⟨?rel, rfl⟩; (case rel => exact ⟨q + 1, true, by omega, rfl, by go_num, HE.out, trivial⟩); (case measure => (simp [intOf]; omega)))
                        | false =>
                          go_wp2_with fail
                          refine (HC2.out).mono ?_
                          rintro e w' ⟨rfl, rfl⟩
                          go_wp2_with fail
                          first
                            | (go_roundw; (case rel => exact ⟨q + 1, false, by omega, rfl, by go_num, HE.out, trivial⟩); (case measure => (simp [intOf]; omega)))
                            | (refine ⟨?_, ?measure⟩; (iterate 30 apply Exists.intro); (repeat apply Exists.intro); refine ⟨?rel, rfl⟩; (case rel => exact ⟨q + 1, false, by omega, rfl, by go_num, HE.out, trivial⟩); (case measure => (simp [intOf]; omega)))
                      · have hcall2 := l1In_any x 0 2 w
                        have hbf : betw x 0 2 = false := by simpa using hb
                        rw [hbf] at HA2 hcall2
                        have HC2 := Lib.hid hcall2
                        have HE : Hid (D = (false && fromM m' (fr.drop (q + 1)))) := Lib.hid (by rw [HA2.out]; rfl)
                        clear HA2 hcall2 hb hbf
                        go_wp2_with fail
                        refine (HC2.out).mono ?_
                        rintro e w' ⟨rfl, rfl⟩
                        go_wp2_with fail
                        first
                          | (go_roundw; (case rel => exact ⟨q + 1, false, by omega, rfl, by go_num, HE.out, trivial⟩); (case measure => (simp [intOf]; omega)))
                          | (refine ⟨?_, ?measure⟩; (iterate 30 apply Exists.intro); (repeat apply Exists.intro); refine ⟨?rel, rfl⟩; (case rel => exact ⟨q + 1, false, by omega, rfl, by go_num, HE.out, trivial⟩); (case measure => (simp [intOf]; omega)))
                  · have HE : Hid (D = b) := Lib.hid (by rw [hG.out, fromM_end (by omega), Bool.and_true])
                    clear hG i0 hfl
                    cases b with
                    | false =>
                      have HE2 : Hid (passM name ds m = passM name (ds.drop (i + 1)) m') := Lib.hid (by rw [HS2.out, HE.out]; rfl)
                      go_wp2_with fail
                      first
                        | (go_roundw; (case rel => exact ⟨i + 1, m', by omega, hm', rfl, by go_num, HE2.out, trivial⟩); (case measure => (simp [intOf]; omega)))
                        | (refine ⟨?_, ?measure⟩; (iterate 30 apply Exists.intro); (repeat apply Exists.intro); refine ⟨?rel, rfl⟩; (case rel => exact ⟨i + 1, m', by omega, hm', rfl, by go_num, HE2.out, trivial⟩); (case measure => (simp [intOf]; omega)))
                    | true =>
                      have hto := HT.out HE.out
                      have HE2 : Hid (passM name ds m = passM name (ds.drop (i + 1)) (m' ||| 2 ^ to.toNat)) := Lib.hid (by rw [HS2.out, HE.out]; rfl)
                      have hmo : m' ||| 2 ^ to.toNat < 8 := Nat.or_lt_two_pow (n := 3) hm' (pow_to hto)
                      obtain ⟨tn, rfl⟩ : ∃ tn : Nat, to = (tn : Int) := ⟨to.toNat, by omega⟩
                      have htn : tn ≤ 2 := by omega
                      rw [Int.toNat_natCast] at HE2 hmo
                      clear hto HT HS2
                      go_wp2_with fail
                      first
                        | (go_roundw; (case rel => exact ⟨i + 1, m' ||| 2 ^ tn, by omega, hmo, by show Value.int _ _ = _; first | (rw [or_pow (by omega) (by omega)]) | (rw [← or_pow (m := m') (v := tn) (by omega) (by omega)]; rfl), by go_num, HE2.out, trivial⟩); (case measure => (simp [intOf]; omega)))
                        | (refine ⟨?_, ?measure⟩; (iterate 30 apply Exists.intro); (repeat apply Exists.intro); refine ⟨?rel, rfl⟩; (case rel => exact ⟨i + 1, m' ||| 2 ^ tn, by omega, hmo, by show Value.int _ _ = _; first | (rw [or_pow (by omega) (by omega)]) | (rw [← or_pow (m := m') (v := tn) (by omega) (by omega)]; rfl), by go_num, HE2.out, trivial⟩); (case measure => (simp [intOf]; omega)))
            · have HE : Hid (passM name ds m = m') := Lib.hid (hF.out.trans (passM_end (by omega)))
              have HE2 : Hid (closure ds name cols = bitsTo (passN name ds (3 - (r + 1)) m') 3) := Lib.hid (by rw [HA.out, HE.out])
              clear hF HE HA
              go_wp2_with fail
              go_roundw
              case rel => exact ⟨r + 1, m', by omega, hm', rfl, by go_num, HE2.out, trivial⟩
              case measure => simp [intOf]; omega
        · have HB : Hid (closure ds name cols = bitsTo m 3) := Lib.hid (by rw [hE.out, show 3 - r = 0 by omega]; rfl)
          clear hE h hl
          go_wp2_with fail
          obtain ⟨w1, hw1⟩ : ∃ W, W = w.alloc (.cells #[] 3) := ⟨_, rfl⟩
          have z1 : Below w.heap.size w w1 := by rw [hw1]; exact (Below.refl _ _).alloc (Nat.le_refl _) _
          have s1 : w1.heap.size = w.heap.size + 1 := by rw [hw1]; simp
          have hb1 := on hb0 z1
          have he : ∀ S, Acc 3 O.int w.heap.size S w1.heap.size w1 (.slice (some ⟨w.heap.size, 0, none⟩) 0 0) [] := fun S => by rw [hw1]; exact Acc.empty (by omega) (by first | (simp; done) | (simp; omega))
          go_wp2_with fail
          rw [← hw1]
          clear hw1
          go_loopw [13, 14] (fun v k wr => ∃ j : Nat, j ≤ 3 ∧ k = .int .i64 j ∧ Acc 3 O.int w.heap.size w1.heap.size wr.heap.size wr v (bitsTo m j) ∧ Turn w.heap.size (w.heap.size + 1) w1 wr) (fun _ k _ => 3 - (intOf k).toNat)
          case atStart => exact ⟨0, Nat.zero_le _, rfl, (he _).wide (Nat.le_refl _) (by omega), turn_refl _ _ _⟩
          case round =>
            obtain ⟨j, hj, rfl, hacc, hdr⟩ := hrel
            have hlc := hdr
            have s2 := hdr.size
            have hb2 := hb1.trans ((hdr.below (by omega)).mono (by omega))
            have hbl := bitsTo_len m j
            by_cases hlt : j < 3
            · have hbt := bitTest8 (c := j) hm
              cases hb : bitAt m j with
              | true =>
                rw [hb] at hbt
                have HB2 := Lib.hid (bitsTo_yes hb)
                clear hb
                go_wp2_with ((at_builtin; refine wpList_accI _ _ _ _ _ hacc hlc rfl (by omega) (Nat.le_refl _) ⟨by omega, by omega⟩ (by omega) rfl rfl rfl rfl rfl ?_; intro v' w1 hacc' ht' hsz'))
                rw [← HB2.out] at hacc'
                go_roundw
                case rel => exact ⟨j + 1, by omega, by go_num, hacc', ht'⟩
                case measure => simp [intOf]; omega
              | false =>
                rw [hb] at hbt
                rw [← bitsTo_no hb] at hacc
                have HO := Lib.hid hacc
                clear hb hacc
                go_wp2_with fail
                go_roundw
                case rel => exact ⟨j + 1, by omega, by go_num, HO.out, hlc⟩
                case measure => simp [intOf]; omega
            · obtain rfl : j = 3 := by omega
              obtain ⟨a', n', cap2, rfl⟩ := hacc.form3
              rw [← HB.out] at hacc
              have HO := Lib.hid (hacc.own (B := w.heap.size) (by omega) (by omega) (Nat.le_refl _))
              clear hacc he
              go_wp2_with fail
              go_ret
              exact ⟨_, rfl, HO.out, hb2⟩

end Go.Proofs.Ytbkoddikfpkocaa

/- Contracts: closures of columns, a contract a side. -/
namespace Go.Proofs.Ytbkoddikfpkocaa
open Go.RowKit
set_option linter.unusedVariables false
set_option linter.unusedSimpArgs false

theorem bulk_Dl_mem {ds : List DDp} (hb : bulk_Dl ds ≤ 1048576) : ∀ f ∈ ds, f.2.1.length ≤ 1000000000 ∧ f.2.1.length ≤ 1048576 := by
  intro f hf
  obtain ⟨j, hj, rfl⟩ := List.mem_iff_getElem.1 hf
  have h1 := sumBy_mem bulk_Dp (List.getElem?_eq_getElem hj)
  have h2 : bulk_Dp ds[j] = ds[j].1.size + bulk_I ds[j].2.1 := rfl
  have h3 : bulk_I ds[j].2.1 = ds[j].2.1.length := rfl
  have h4 : bulk_Dl ds = ds.length + sumBy bulk_Dp ds := rfl
  omega
theorem closure_spec' (u v : Value) (ds : List DDp) (name : ByteArray) (cols : List Int) (w : World) (h : rDl.rep w [u] ds) (h' : rI.rep w [v] cols) :
    Calls Try.prog 51 #[u, .string name, v] w fun e w' => ∃ u, e = .returned u ∧ Own oI w.heap.size w'.heap.size w' [u] (closure ds name cols) ∧ Below w.heap.size w w' := by
  obtain ⟨a, n, c, hv⟩ := rS_form h
  simp at hv; subst hv
  obtain ⟨b, m, d, hv⟩ := rI_form h'
  simp at hv; subst hv
  exact closure_spec a n c ds name b m d cols w (rS_sl h) (rI_ints h')
theorem closure_impl' (u v : Value) (ds : List DDp) (name : ByteArray) (cols : List Int) (w : World) (h : rDl.rep w [u] ds) (h' : rI.rep w [v] cols) (hb : bulk_Dl ds ≤ 1048576) :
    Calls Try.prog 54 #[u, .string name, v] w fun e w' => ∃ u, e = .returned u ∧ Own oI w.heap.size w'.heap.size w' [u] (closure ds name cols) ∧ Below w.heap.size w w' := by
  obtain ⟨a, n, c, hv⟩ := rS_form h
  simp at hv; subst hv
  obtain ⟨b, m, d, hv⟩ := rI_form h'
  simp at hv; subst hv
  exact closure_impl a n c ds name b m d cols w (rS_sl h) (rI_ints h') (fun f hf => (bulk_Dl_mem hb f hf).2)
theorem closure_len (ds : List DDp) (name : ByteArray) (cols : List Int) : (closure ds name cols).length ≤ 3 := bitsTo_len _ 3

end Go.Proofs.Ytbkoddikfpkocaa

/- The walk of the law ColumnClosure. Written by a program. -/
namespace Go.Proofs.Ytbkoddikfpkocaa
open Go.RowKit
set_option linter.unusedVariables false
set_option linter.unusedSimpArgs false
set_option synthInstance.maxSize 2000
set_option synthInstance.maxHeartbeats 400000

set_option maxHeartbeats 4000000 in
set_option maxRecDepth 100000 in
theorem walk_FnExactColumnClosure (v0 : Value) (v1 : Value) (v2 : Value) (w : World) (h0 : kDl_in w v0) (h1 : str_in w v1) (h2 : kI_in w v2) :
    Calls Try.prog 5 #[v0, v1, v2] w fun e w' => e = .returned (.bool true) ∧ Below w.heap.size w w' := by
  obtain ⟨v0, x0, rfl, h0⟩ := h0
  obtain ⟨x1, rfl, h1⟩ := h1
  obtain ⟨a2, n2, p2, x2, rfl, hn2, h2⟩ := h2
  have hb0 : Below w.heap.size w w := Below.refl _ _
  rcases Nat.lt_or_ge 1048576 x1.size with g1 | g1
  · skip
    go_enter Try.func5, Try.ntmps5
    go_wp2
    go_ret
    exact ⟨rfl, Below.refl _ _⟩
  rcases Nat.lt_or_ge 1048576 n2 with g2 | g2
  · have hm2 := hn2.2
    go_enter Try.func5, Try.ntmps5
    go_wp2
    go_ret
    exact ⟨rfl, Below.refl _ _⟩
  have hbk2 : bulk_I x2 ≤ 1048576 := by have h9 := hn2.1; unfold bulk_I; omega
  go_enter Try.func5, Try.ntmps5
  go_wp2_with fail
  refine (sz_Dl _ x0 (1048576) _ (rDl.mono h0 hb0) (by omega) (by omega)).mono ?_
  rintro e w1 ⟨rfl, z1⟩
  have s1 := z1.size
  have hb1 := on hb0 z1
  obtain ⟨q0, hq0⟩ : ∃ q, q = szR (1048576) (bulk_Dl x0) := ⟨_, rfl⟩
  rw [← hq0]
  have hc0 := szR_cases (1048576) (bulk_Dl x0)
  rw [← hq0] at hc0
  clear hq0
  rcases hc0 with ⟨rfl, _⟩ | ⟨hq0, hbk0⟩
  · go_wp2_with fail
    go_ret
    exact ⟨rfl, hb1⟩
  have hlo0 : 0 ≤ q0 ∧ q0 ≤ 1048576 := by omega
  have hbl0 : bulk_Dl x0 ≤ 1048576 := by omega
  obtain ⟨hlo0, hlp0⟩ := hlo0
  have HQ0 := Lib.hid hq0
  clear hq0 hbk0
  go_wp2_with fail
  refine (to_Dl _ _ _ (rDl.mono h0 hb1) (by omega)).mono ?_
  rintro e w2 ⟨ct0, rfl, t0, z2⟩
  have s2 := z2.size
  have hb2 := on hb1 z2
  go_wp2_with fail
  refine (to_I _ _ _ (rI.mono h2 hb2) (by omega)).mono ?_
  rintro e w3 ⟨ct2, rfl, t2, z3⟩
  have s3 := z3.size
  have hb3 := on hb2 z3
  replace t0 := t0.below z3 (by omega)
  go_wp2_with fail
  refine (closure_spec' _ _ x0 x1 x2 _ (t0.rd reads_Dl) (t2.rd reads_I)).mono ?_
  rintro e w4 ⟨cW0, rfl, W0, z4⟩
  have s4 := z4.size
  have hb4 := on hb3 z4
  replace t0 := t0.below z4 (by omega)
  replace t2 := t2.below z4 (by omega)
  clear t0
  clear t2
  go_wp2_with fail
  refine (to_Dl _ _ _ (rDl.mono h0 hb4) (by omega)).mono ?_
  rintro e w5 ⟨cy0, rfl, y0, z5⟩
  have s5 := z5.size
  have hb5 := on hb4 z5
  replace W0 := W0.below z5 (by omega)
  go_wp2_with fail
  refine (to_I _ _ _ (rI.mono h2 hb5) (by omega)).mono ?_
  rintro e w6 ⟨cy2, rfl, y2, z6⟩
  have s6 := z6.size
  have hb6 := on hb5 z6
  replace W0 := W0.below z6 (by omega)
  replace y0 := y0.below z6 (by omega)
  go_wp2_with fail
  refine (closure_impl' _ _ x0 x1 x2 _ (y0.rd reads_Dl) (y2.rd reads_I) (by omega)).mono ?_
  rintro e w7 ⟨cG0, rfl, G0, z7⟩
  have s7 := z7.size
  have hb7 := on hb6 z7
  replace W0 := W0.below z7 (by omega)
  replace y0 := y0.below z7 (by omega)
  replace y2 := y2.below z7 (by omega)
  go_wp2_with fail
  refine (eq_I _ _ _ _ _ (G0.rd reads_I) (W0.rd reads_I)).mono ?_
  rintro e w8 ⟨rfl, z8⟩
  replace z8 : Below w7.heap.size w7 w8 := z8.below _
  have s8 := z8.size
  have hb8 := on hb7 z8
  replace W0 := W0.below z8 (by omega)
  replace y0 := y0.below z8 (by omega)
  replace y2 := y2.below z8 (by omega)
  replace G0 := G0.below z8 (by omega)
  go_wp2_with fail
  refine (to_Dl _ _ _ (rDl.mono h0 hb8) (by omega)).mono ?_
  rintro e w9 ⟨cu0, rfl, u0, z9⟩
  have s9 := z9.size
  have hb9 := on hb8 z9
  replace W0 := W0.below z9 (by omega)
  replace y0 := y0.below z9 (by omega)
  replace y2 := y2.below z9 (by omega)
  replace G0 := G0.below z9 (by omega)
  go_wp2_with fail
  refine (eq_Dl _ _ _ _ _ (y0.rd reads_Dl) (u0.rd reads_Dl)).mono ?_
  rintro e w10 ⟨rfl, z10⟩
  have s10 := z10.size
  have hb10 := on hb9 z10
  replace W0 := W0.below z10 (by omega)
  replace y0 := y0.below z10 (by omega)
  replace y2 := y2.below z10 (by omega)
  replace G0 := G0.below z10 (by omega)
  replace u0 := u0.below z10 (by omega)
  clear u0
  go_wp2_with fail
  refine (to_I _ _ _ (rI.mono h2 hb10) (by omega)).mono ?_
  rintro e w11 ⟨cu2, rfl, u2, z11⟩
  have s11 := z11.size
  have hb11 := on hb10 z11
  replace W0 := W0.below z11 (by omega)
  replace y0 := y0.below z11 (by omega)
  replace y2 := y2.below z11 (by omega)
  replace G0 := G0.below z11 (by omega)
  go_wp2_with fail
  refine (eq_I _ _ _ _ _ (y2.rd reads_I) (u2.rd reads_I)).mono ?_
  rintro e w12 ⟨rfl, z12⟩
  replace z12 : Below w11.heap.size w11 w12 := z12.below _
  have s12 := z12.size
  have hb12 := on hb11 z12
  replace W0 := W0.below z12 (by omega)
  replace y0 := y0.below z12 (by omega)
  replace y2 := y2.below z12 (by omega)
  replace G0 := G0.below z12 (by omega)
  replace u2 := u2.below z12 (by omega)
  clear u2
  have hct0 := cnt_le_Dl x0
  have hct2 := cnt_le_I x2
  go_wp2_with fail
  refine (mark_Dl _ x0 (1) w4.heap.size w5.heap.size _ y0 (by omega) (by omega) (by omega) (by omega)).mono ?_
  rintro e w13 ⟨rfl, y0m, z13⟩
  have s13 := z13.size
  have hb13 := hb12.trans ((z13.below (by omega)).mono (by omega))
  replace W0 := W0.turn z13 (by omega)
  replace y2 := y2.turn z13 (by omega)
  replace G0 := G0.turn z13 (by omega)
  clear y0
  clear y0m
  go_wp2_with fail
  refine (mark_I _ x2 (1 + (cnt_Dl x0 : Int)) w5.heap.size w6.heap.size _ y2 (by omega) (by omega) (by omega)).mono ?_
  rintro e w14 ⟨rfl, y2m, z14⟩
  have s14 := z14.size
  have hb14 := hb13.trans ((z14.below (by omega)).mono (by omega))
  replace W0 := W0.turn z14 (by omega)
  replace G0 := G0.turn z14 (by omega)
  clear y2
  clear y2m
  go_wp2_with fail
  refine (eq_I _ _ _ _ _ (G0.rd reads_I) (W0.rd reads_I)).mono ?_
  rintro e w15 ⟨rfl, z15⟩
  replace z15 : Below w14.heap.size w14 w15 := z15.below _
  have s15 := z15.size
  have hb15 := on hb14 z15
  replace W0 := W0.below z15 (by omega)
  replace G0 := G0.below z15 (by omega)
  have hrb0 := show cnt_I (closure x0 x1 x2) ≤ 3 from closure_len x0 x1 x2
  go_wp2_with fail
  refine (mark_I _ _ (1) w6.heap.size w7.heap.size _ G0 (by omega) (by omega) (by omega)).mono ?_
  rintro e w16 ⟨rfl, M0, z16⟩
  have s16 := z16.size
  have hb16 := hb15.trans ((z16.below (by omega)).mono (by omega))
  replace W0 := W0.turn z16 (by omega)
  clear G0
  go_wp2_with fail
  refine (held_I _ _ (1) _ (M0.rd reads_I) (by omega) (by omega)).mono ?_
  rintro e w' ⟨rfl, rfl⟩
  go_wp2_with fail
  refine (to_Dl _ _ _ (rDl.mono h0 hb16) (by omega)).mono ?_
  rintro e w17 ⟨cp0, rfl, p0, z17⟩
  have s17 := z17.size
  have hb17 := on hb16 z17
  replace W0 := W0.below z17 (by omega)
  replace M0 := M0.below z17 (by omega)
  go_wp2_with fail
  refine (to_I _ _ _ (rI.mono h2 hb17) (by omega)).mono ?_
  rintro e w18 ⟨cp2, rfl, p2, z18⟩
  have s18 := z18.size
  have hb18 := on hb17 z18
  replace W0 := W0.below z18 (by omega)
  replace M0 := M0.below z18 (by omega)
  replace p0 := p0.below z18 (by omega)
  go_wp2_with fail
  refine (closure_impl' _ _ x0 x1 x2 _ (p0.rd reads_Dl) (p2.rd reads_I) (by omega)).mono ?_
  rintro e w19 ⟨cH0, rfl, H0, z19⟩
  have s19 := z19.size
  have hb19 := on hb18 z19
  replace W0 := W0.below z19 (by omega)
  replace M0 := M0.below z19 (by omega)
  replace p0 := p0.below z19 (by omega)
  replace p2 := p2.below z19 (by omega)
  go_wp2_with fail
  refine (eq_I _ _ _ _ _ (H0.rd reads_I) (W0.rd reads_I)).mono ?_
  rintro e w20 ⟨rfl, z20⟩
  replace z20 : Below w19.heap.size w19 w20 := z20.below _
  have s20 := z20.size
  have hb20 := on hb19 z20
  replace W0 := W0.below z20 (by omega)
  replace M0 := M0.below z20 (by omega)
  replace p0 := p0.below z20 (by omega)
  replace p2 := p2.below z20 (by omega)
  replace H0 := H0.below z20 (by omega)
  go_wp2_with fail
  refine (held_I _ _ (1) _ (M0.rd reads_I) (by omega) (by omega)).mono ?_
  rintro e w' ⟨rfl, rfl⟩
  go_wp2_with fail
  go_ret
  exact ⟨rfl, hb20⟩

end Go.Proofs.Ytbkoddikfpkocaa
