/- Kind II: shape, size, copy, comparison. Written by a program. -/
import Derived.Test.YthhbmbkecaffeaaUniI
import Derived.Test.YthhbmbkecaffeaaGen
import Derived.Deep.RegionHeld3
namespace Go.Proofs.Ythhbmbkecaffeaa
open Go.RowKit
set_option linter.unusedVariables false
set_option linter.unusedSimpArgs false
set_option synthInstance.maxSize 2000
set_option synthInstance.maxHeartbeats 400000

theorem rII_form {w : World} {cs : List Value} {xs : List (List Int)} (h : rII.rep w cs xs) : ∃ b n c, cs = [.slice b n c] := rS_form h
theorem oII_form1 {lo hi : Nat} {w : World} {v : Value} {xs : List (List Int)} (h : Own oII lo hi w [v] xs) : ∃ b n c, v = .slice b n c := oS_form1 reads_I h
def bulk_II (xs : List (List Int)) : Nat := xs.length + sumBy bulk_I xs

set_option maxHeartbeats 1000000 in
theorem sz_II (v : Value) (xs : List (List Int)) (left : Int) (w : World) (h : rII.rep w [v] xs) (h0 : 0 ≤ left) (h1 : left ≤ 1048576) :
    Calls Try.prog 72 #[v, .int .i64 left] w fun e w' => e = .returned (.int .i64 (szR left (bulk_II xs))) ∧ Below w.heap.size w w' := by
  obtain ⟨a, cap, rfl, hn1, hn2, hi⟩ := rS_open h
  clear h
  unfold bulk_II
  have hsm := hi.small
  obtain ⟨n, hlen⟩ : ∃ n, xs.length = n := ⟨_, rfl⟩
  rw [hlen] at hi hsm hn1 ⊢
  by_cases hl : (n : Int) ≤ left
  case neg =>
    have HE := Lib.hid (szR_no (sumBy bulk_I xs) hl)
    clear hi
    go_enter Try.func72, Try.ntmps72
    go_wp2_with fail
    go_ret
    exact ⟨ret_int HE.out.symm, Below.refl _ _⟩
  have HE := Lib.hid (szR_add (b := sumBy bulk_I xs) hl)
  go_enter Try.func72, Try.ntmps72
  go_wp2_with fail
  go_loopw [1, 5] (fun l i wr => ∃ (j : Nat) (q : Int), j ≤ n ∧ i = .int .i64 j ∧ l = .int .i64 q ∧ 0 ≤ q ∧ q ≤ 1048576 ∧ Hid (szR left (n + sumBy bulk_I xs) = szR q (sumBy bulk_I (xs.drop j))) ∧ Below w.heap.size w wr) (fun _ i _ => n - (intOf i).toNat)
  case atStart => exact ⟨0, left - n, Nat.zero_le _, rfl, rfl, by omega, by omega, HE.out, Below.refl _ _⟩
  case round =>
    obtain ⟨j, q, hj, rfl, rfl, q0, q1, hE, hb⟩ := hrel
    clear HE
    by_cases hlt : j < n
    · obtain ⟨b, off, cs, x, rfl, hx, hr, hc⟩ := (hi.below hb).at hlt
      obtain ⟨ub, un, uc, rfl⟩ := rI_form hr
      have c0 : wr.cell? ⟨b, off + j, none⟩ = some (.slice ub un uc) := by have h9 := hc 0 _ rfl; rw [show rI.size = 1 from rfl] at h9; simpa using h9
      clear hc
      have HS := hE.out.trans (congrArg (szR q) (sumBy_drop bulk_I hx.out))
      have hcs := szR_cases q (bulk_I x)
      have hcall := sz_I _ x q wr hr q0 q1
      obtain ⟨p, hp⟩ : ∃ p, p = szR q (bulk_I x) := ⟨_, rfl⟩
      rw [← hp] at hcall hcs
      have HC := Lib.hid hcall
      clear hcall hi
      rcases hcs with ⟨rfl, l⟩ | ⟨hp2, l⟩
      · have HE := Lib.hid (HS.trans (szR_no _ l))
        clear hp HS l hE
        go_wp2_with fail
        refine HC.out.mono ?_
        rintro e w1 ⟨rfl, z1⟩
        replace z1 : Below wr.heap.size wr w1 := by rw [z1]; exact Below.refl _ _
        go_wp2_with fail
        go_ret
        exact ⟨ret_int HE.out.symm, on hb z1⟩
      · have HE := Lib.hid (HS.trans ((szR_add l).trans (by rw [← hp2])) : szR left (n + sumBy bulk_I xs) = szR p (sumBy bulk_I (xs.drop (j + 1))))
        have p0 : 0 ≤ p := by omega
        have p1 : p ≤ 1048576 := by omega
        clear hp hp2 HS l hE
        go_wp2_with fail
        refine HC.out.mono ?_
        rintro e w1 ⟨rfl, z1⟩
        replace z1 : Below wr.heap.size wr w1 := by rw [z1]; exact Below.refl _ _
        go_wp2_with fail
        go_roundw
        case rel => exact ⟨j + 1, p, by omega, by go_num, rfl, p0, p1, HE, on hb z1⟩
        case measure => simp [intOf]; omega
    · have HE := Lib.hid (hE.out.trans (by rw [sumBy_end _ (by omega)]; unfold szR; rw [if_pos (by omega)]; simp) : szR left (n + sumBy bulk_I xs) = q)
      clear hi hE
      go_wp2_with fail
      go_ret
      exact ⟨ret_int HE.out.symm, hb⟩

set_option maxHeartbeats 2000000 in
set_option maxRecDepth 100000 in
theorem to_II (v : Value) (xs : List (List Int)) (w : World) (h : rII.rep w [v] xs) (hn : bulk_II xs ≤ 1048576) :
    Calls Try.prog 76 #[v] w fun e w' => ∃ u, e = .returned u ∧ Own oII w.heap.size w'.heap.size w' [u] xs ∧ Below w.heap.size w w' := by
  obtain ⟨a, cap, rfl, hn1, hn2, hi⟩ := rS_open h
  clear h
  unfold bulk_II at hn
  obtain ⟨n, hlen⟩ : ∃ n, xs.length = n := ⟨_, rfl⟩
  rw [hlen] at hi hn hn1 ⊢
  have hbk : ∀ (j : Nat) x, xs[j]? = some x → bulk_I x ≤ 1048576 := fun j x hx => by have := sumBy_mem bulk_I hx; omega
  have hn3 : n ≤ 100000000 := by omega
  clear hn
  go_enter Try.func76, Try.ntmps76
  go_wp2_with (at_make; refine wpList_mkS (size := 1) (bytes := 24) (z := .slice none 0 0) rfl rfl rfl (by decide) (by decide) oI xs _ _ n hn3 rfl rfl rfl rfl ?_; intro w1 hp1 hb1 hz1)
  go_wp2_with fail
  go_loopw [4] (fun k wr => ∃ j : Nat, j ≤ n ∧ k = .int .i64 j ∧ Part 35 oI [.slice none 0 0] w.heap.size wr w.heap.size n j xs ∧ Below w.heap.size w wr) (fun k _ => n - (intOf k).toNat)
  case atStart => exact ⟨0, Nat.zero_le _, rfl, hp1, hb1⟩
  case round =>
    obtain ⟨j, hj, rfl, hp, hb⟩ := hrel
    clear hp1 hb1
    by_cases hlt : j < n
    · obtain ⟨b, off, cs, x, rfl, hx, hr, hc⟩ := (hi.below hb).at hlt
      obtain ⟨ub, un, uc, rfl⟩ := rI_form hr
      have c0 : wr.cell? ⟨b, off + j, none⟩ = some (.slice ub un uc) := by have h9 := hc 0 _ rfl; rw [show rI.size = 1 from rfl] at h9; simpa using h9
      clear hc
      have hg : w.heap.size < wr.heap.size := by obtain ⟨_, _, _, _, _, _, _, h9⟩ := hp; exact h9
      have HC := Lib.hid (to_I _ x wr hr (hbk j x hx.out))
      have HI := Lib.hid hi
      go_wp2_with fail
      refine HC.out.mono ?_
      rintro e w1 ⟨d, rfl, ho, z1⟩
      obtain ⟨db, dn, dc, rfl⟩ := oI_form1 ho
      have s1 := z1.size
      have hp1 : Part 35 oI [.slice none 0 0] w.heap.size w1 w.heap.size n j xs := hp.below z1 (Nat.le_refl _)
      obtain ⟨⟨e0, f0⟩, g0⟩ := hp1.cell rfl hlt (by omega) 0 (by decide)
      rw [show oI.size = 1 from rfl, Nat.mul_one, Nat.add_zero] at f0 g0
      replace f0 : w1.cell? ⟨w.heap.size, j, none⟩ = some e0 := f0
      replace g0 : w1.frozen? ⟨w.heap.size, j, none⟩ = false := g0
      have HP := Lib.hid (hp1.step (cs := [.slice db dn dc]) rfl hlt hx.out ho hg ⟨wr, hp, Nat.le_refl _, fun p hp => z1.block p hp⟩ (Nat.le_refl _) (by omega))
      rw [show oI.size = 1 from rfl, Nat.mul_one] at HP
      have hb1 := on hb z1
      clear ho hp hp1
      go_wp2_with fail
      go_roundw
      case rel => exact ⟨j + 1, by omega, by go_num, HP.out, (hb1.setCell (Nat.le_refl _) _)⟩
      case measure => simp [intOf]; omega
    · have hjn : j = n := by omega
      subst hjn
      have HO := Lib.hid (hp.done hlen (by omega))
      clear hp hi
      go_wp2_with fail
      go_ret
      exact ⟨_, rfl, HO.out, hb⟩

set_option maxHeartbeats 2000000 in
theorem eq_II (u v : Value) (xs ys : List (List Int)) (w : World) (h : rII.rep w [u] xs) (h' : rII.rep w [v] ys) :
    Calls Try.prog 79 #[u, v] w fun e w' => e = .returned (.bool (decide (xs = ys))) ∧ Below w.heap.size w w' := by
  obtain ⟨a, cap, rfl, _, _, hi⟩ := rS_open h
  obtain ⟨a', cap', rfl, _, _, hi'⟩ := rS_open h'
  exact (eqIntSS_any _ _ _ _ _ _ _ _ _ hi hi').mono fun e w' ⟨h1, h2⟩ => ⟨h1, h2.below _⟩

end Go.Proofs.Ythhbmbkecaffeaa
