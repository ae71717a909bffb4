/- Texts joined for one claim: MaskI, NearC, Shared, Conn, Conn2, Split, GraphP, GraphL. -/
import Derived.Test.YtpgfkjcekhifiaaQbd9fa34d1b
import Derived.Test.YtpgfkjcekhifiaaQ983c2190ad
import Derived.Deep.RegionHeld3

/- Contracts: the variables of a mask, by the program; shared variables. -/
namespace Go.Proofs.Ytpgfkjcekhifiaa
open Go.RowKit
set_option linter.unusedVariables false
set_option linter.unusedSimpArgs false
set_option synthInstance.maxSize 2000
set_option synthInstance.maxHeartbeats 400000

theorem own_empty' {B : Nat} {W : World} {g : Nat} (hB : B ≤ W.heap.size) (hg : W.heap.size = g) : OwnInts B (W.alloc (.cells #[] 3)) (.slice (some ⟨g, 0, none⟩) 0 0) 0 [] := by
  subst hg; exact own_empty hB

theorem wpList_app1g {B : Nat} {w0 W : World} {ops : Array Oper} {rest : List Oper} {o : Oper} {a : Act} {Q : Exit → Act → World → Prop}
    (s x : Operand) (v : Value) (n g : Nat) (xs : List Int) (u : Int)
    (hown : OwnInts B W v n xs) (hb : Below B w0 W) (hB : B ≤ W.heap.size) (hu : I64 u) (hn : n ≤ 1000000000000) (hg : W.heap.size = g)
    (hgd : o.guard = none) (ho : o.op = .call { callee := .builtin .append, args := #[s, x], argTypes := #[29, 29] })
    (hs : a.eval s = v) (hx : a.eval x = .slice (some ⟨g, 0, none⟩) 1 1)
    (h : ∀ v' w', OwnInts B w' v' (n + 1) (xs ++ [u]) → Below B w0 w' → B ≤ w'.heap.size → wpList Try.prog ops Q rest (a.put o.dst v') w') :
    wpList Try.prog ops Q (o :: rest) a (W.alloc (.cells #[.int .i64 u] 3)) := by
  subst hg
  exact wpList_app1 s x v n xs u hown hb hB hu hn hgd ho hs hx h

set_option maxHeartbeats 2000000 in
theorem variables_any (cs : List Value) (x : DQ) (K n : Nat) (w : World) (h : rQ.rep w cs x) (hq : QOk x n) (hK : K < 16) :
    Calls Try.prog 44 #[.agg cs.toArray, .int .i64 K] w fun e w' => ∃ u, e = .returned u ∧ Own oI w.heap.size w'.heap.size w' [u] (varsOf x K) ∧ Below w.heap.size w w' := by
  obtain ⟨ub, un, uc, rfl, hi, g1⟩ := rQ_open h
  clear h hi
  obtain ⟨i, xs⟩ := x
  simp only at g1
  have t0 := rS_sl g1
  have hl := t0.len
  have hn4 := hq.le
  have hl4 := hq.len
  have hcnt := hq.cnt
  simp only at hl4 hcnt
  subst hcnt
  have hun : un ≤ 4 := by omega
  have HQ := Lib.hid hq
  obtain ⟨M, hM⟩ : ∃ M, M = bitsOf ((n : Int), xs) K := ⟨_, rfl⟩
  have HV := Lib.hid (show bitsTo M n = varsOf ((n : Int), xs) K by rw [hq.varsOf K, hM])
  have HS := Lib.hid (show ∀ v, bitAt M v = someFrom K v 0 (xs.drop 0) by intro v; rw [hM]; exact hq.some K v)
  clear hq hl4 hM
  have hb0 : Below w.heap.size w w := Below.refl _ _
  go_enter Try.func44, Try.ntmps44
  obtain ⟨w1, hw1⟩ : ∃ W, W = w.alloc (.cells #[.int .i64 n, .slice ub un uc] 26) := ⟨_, rfl⟩
  have z1 : Below w.heap.size w w1 := by rw [hw1]; exact (Below.refl _ _).alloc (Nat.le_refl _) _
  have s1 : w1.heap.size = w.heap.size + 1 := by rw [hw1]; simp
  have hb1 := on hb0 z1
  have b_0 : w1.cell? ⟨w.heap.size, 0, none⟩ = some (.int .i64 n) := by rw [hw1]; exact box_cell (Below.refl _ _) rfl
  have b_1 : w1.cell? ⟨w.heap.size, 1, none⟩ = some (.slice ub un uc) := by rw [hw1]; exact box_cell (Below.refl _ _) rfl
  have raw1_b_0 := b_0
  have raw1_b_1 := b_1
  rw [hw1] at raw1_b_0 raw1_b_1
  go_wp2_with fail
  rw [← hw1]
  clear hw1
  clear raw1_b_0 raw1_b_1
  go_loopw [5, 6] (fun s k wr => ∃ j q : Nat, j ≤ n ∧ k = .int .i64 j ∧ OwnInts w1.heap.size wr s q (bitsTo M j) ∧ Below w1.heap.size w1 wr) (fun _ k _ => n - (intOf k).toNat)
  case atStart => exact ⟨0, 0, Nat.zero_le _, rfl, own_empty' (Nat.le_refl _) (by omega), (Below.refl _ _).alloc (Nat.le_refl _) _⟩
  case round =>
    obtain ⟨j, q, hj, rfl, hown, hdr⟩ := hrel
    obtain ⟨wo, rfl⟩ : ∃ W, W = wr := ⟨_, rfl⟩
    have hlc := hdr
    have s2 := hdr.size
    have hb2 := on hb1 hdr
    replace b_0 := (hdr.cell (p := ⟨w.heap.size, 0, none⟩) (by simp only []; omega)).trans b_0
    replace b_1 := (hdr.cell (p := ⟨w.heap.size, 1, none⟩) (by simp only []; omega)).trans b_1
    have hq4 : q ≤ 4 := by have := hown.len; have := bitsTo_len M j; omega
    by_cases hlt : j < n
    · go_wp2_with fail
      obtain ⟨a, cap, rfl, hqs, hqa⟩ := own_form hown.row
      go_loopw [5, 19] (fun s k wr => ∃ i' : Nat, i' ≤ un ∧ k = .int .i64 i' ∧ s = .slice a q cap ∧ Hid (bitAt M j = someFrom K j i' (xs.drop i')) ∧ Below wo.heap.size wo wr) (fun _ k _ => un - (intOf k).toNat)
      case atStart => exact ⟨0, Nat.zero_le _, rfl, rfl, HS.out j, Below.refl _ _⟩
      case round =>
        obtain ⟨i', hi, rfl, rfl, hE, hdr⟩ := hrel
        have hld := hdr
        have s3 := hdr.size
        have hb3 := on hb2 hdr
        replace b_0 := (hdr.cell (p := ⟨w.heap.size, 0, none⟩) (by simp only []; omega)).trans b_0
        replace b_1 := (hdr.cell (p := ⟨w.heap.size, 1, none⟩) (by simp only []; omega)).trans b_1
        replace hlc := on hlc hdr
        replace hown := hown.below hdr
        by_cases hlv : i' < un
        · obtain ⟨b1, o1, cs, x, rfl, hx, hr, hc⟩ := t0.at hlv
          obtain ⟨s, vs⟩ := x
          obtain ⟨vb, vn, vc, rfl, hs, g2⟩ := rA_open hr
          simp only at hs g2
          have e_lt : b1 < w.heap.size := cell_lt (hc 0 _ rfl)
          have e_0 : wr.cell? ⟨b1, o1 + i' * 2, none⟩ = some (.string s) := (hb3.cell (p := ⟨b1, o1 + i' * 2, none⟩) e_lt).trans (by have h9 := hc 0 _ rfl; rw [← Nat.add_assoc] at h9; exact h9)
          have e_1 : wr.cell? ⟨b1, o1 + i' * 2 + 1, none⟩ = some (.slice vb vn vc) := (hb3.cell (p := ⟨b1, o1 + i' * 2 + 1, none⟩) e_lt).trans (by have h9 := hc 1 _ rfl; rw [← Nat.add_assoc] at h9; exact h9)
          have HA := Lib.hid (hE.out.trans (someFrom_at hx.out))
          clear hc t0 hr hl hx hE HV HS
          simp only at HA
          obtain ⟨w4, hw4⟩ : ∃ W, W = wr.alloc (.cells #[.string s, .slice vb vn vc] 49) := ⟨_, rfl⟩
          have z4 : Below wr.heap.size wr w4 := by rw [hw4]; exact (Below.refl _ _).alloc (Nat.le_refl _) _
          have s4 : w4.heap.size = wr.heap.size + 1 := by rw [hw4]; simp
          have hb4 := on hb3 z4
          have old4_b_0 := b_0
          have old4_b_1 := b_1
          have old4_e_0 := e_0
          have old4_e_1 := e_1
          replace b_0 := (z4.cell (p := ⟨w.heap.size, 0, none⟩) (by simp only []; omega)).trans b_0
          replace b_1 := (z4.cell (p := ⟨w.heap.size, 1, none⟩) (by simp only []; omega)).trans b_1
          replace hlc := on hlc z4
          replace hown := hown.below z4
          replace hld := on hld z4
          replace e_0 := (z4.cell (p := ⟨b1, o1 + i' * 2, none⟩) (by simp only []; omega)).trans e_0
          replace e_1 := (z4.cell (p := ⟨b1, o1 + i' * 2 + 1, none⟩) (by simp only []; omega)).trans e_1
          have p_0 : w4.cell? ⟨wr.heap.size, 0, none⟩ = some (.string s) := by rw [hw4]; exact box_cell (Below.refl _ _) rfl
          have p_1 : w4.cell? ⟨wr.heap.size, 1, none⟩ = some (.slice vb vn vc) := by rw [hw4]; exact box_cell (Below.refl _ _) rfl
          have raw4_b_0 := b_0
          have raw4_b_1 := b_1
          have raw4_e_0 := e_0
          have raw4_e_1 := e_1
          have raw4_p_0 := p_0
          have raw4_p_1 := p_1
          rw [hw4] at raw4_b_0 raw4_b_1 raw4_e_0 raw4_e_1 raw4_p_0 raw4_p_1
          have hbt := bit_test K i' (by omega)
          have hlt2 : (j : Int) < n := by omega
          cases hb : bitAt K i' with
          | true =>
            rw [hb] at HA hbt
            have i0 := (rI_ints g2).below hb4
            clear hb
            go_wp2_with fail
            rw [← hw4]
            clear hw4
            clear old4_b_0 old4_b_1 old4_e_0 old4_e_1 raw4_b_0 raw4_b_1 raw4_e_0 raw4_e_1 raw4_p_0 raw4_p_1
            refine (contains_any _ _ _ _ _ _ i0).mono ?_
            rintro e w' ⟨rfl, rfl⟩
            obtain ⟨t, ht⟩ : ∃ t, t = has vs (j : Int) := ⟨_, rfl⟩
            rw [← ht] at HA ⊢
            clear ht i0
            cases t with
            | true =>
              have HB := Lib.hid (bitsTo_yes (show bitAt M j = true by rw [HA.out]; simp))
              have hsz := hlc.size
              go_wp2_with ((at_builtin; refine wpList_app1g _ _ _ _ _ _ _ hown hlc hsz ⟨by omega, by omega⟩ (by omega) (by omega) rfl rfl rfl rfl ?_; intro v' w9 hown' hb' hsz'))
              rw [← HB.out] at hown'
              go_roundw
              case rel => exact ⟨j + 1, q + 1, by omega, by go_num, hown', hb'⟩
              case measure => simp [intOf]; omega
            | false =>
              have HE := Lib.hid (show bitAt M j = someFrom K j (i' + 1) (xs.drop (i' + 1)) by rw [HA.out]; simp)
              go_wp2_with fail
              go_roundw
              case rel => exact ⟨i' + 1, by omega, by go_num, rfl, HE.out, hld⟩
              case measure => simp [intOf]; omega
          | false =>
            rw [hb] at HA hbt
            have HE := Lib.hid (show bitAt M j = someFrom K j (i' + 1) (xs.drop (i' + 1)) by rw [HA.out]; simp)
            clear hb HA
            go_wp2_with fail
            rw [← hw4]
            clear hw4
            clear old4_b_0 old4_b_1 old4_e_0 old4_e_1 raw4_b_0 raw4_b_1 raw4_e_0 raw4_e_1 raw4_p_0 raw4_p_1
            go_roundw
            case rel => exact ⟨i' + 1, by omega, by go_num, rfl, HE.out, hld⟩
            case measure => simp [intOf]; omega
        · rw [← bitsTo_no (hE.out.trans (someFrom_end (by omega)))] at hown
          have HO := Lib.hid hown
          clear t0 hl hE hown
          go_wp2_with fail
          go_roundw
          case rel => exact ⟨j + 1, q, by omega, by go_num, HO.out, hlc⟩
          case measure => simp [intOf]; omega
    · obtain rfl : j = n := by omega
      obtain ⟨a, cap, rfl, _⟩ := own_form hown.row
      rw [HV.out] at hown
      have HO := Lib.hid (show Own oI w.heap.size wo.heap.size wo [.slice a q cap] _ from hown.own.mono (by omega) (Nat.le_refl _))
      clear t0 hl hown
      go_wp2_with fail
      go_ret
      exact ⟨_, rfl, HO.out, hb2⟩

theorem maskVars_cnt (q : DQ) (k : Int) : cnt_I (maskVars q k) ≤ 4 := maskVars_len q k

set_option maxHeartbeats 1000000 in
theorem both_any (u v : Value) (xs ys : List Int) (w : World) (h : rI.rep w [u] xs) (h' : rI.rep w [v] ys) (hn : xs.length ≤ 1048576) :
    Calls Try.prog 45 #[u, v] w fun e w' => ∃ u, e = .returned u ∧ Own oI w.heap.size w'.heap.size w' [u] (both xs ys) ∧ Below w.heap.size w w' := by
  obtain ⟨a, cap, rfl, _, _, hi⟩ := rI_open h
  obtain ⟨a', cap', rfl, _, _, hi'⟩ := rI_open h'
  clear h h'
  obtain ⟨n, hl⟩ : ∃ n, xs.length = n := ⟨_, rfl⟩
  rw [hl] at hi hn ⊢
  go_enter Try.func45, Try.ntmps45
  go_wp2
  go_loopw [5, 11] (fun v i wr => ∃ (j : Nat), j ≤ n ∧ i = .int .i64 j ∧ ∃ q, OwnInts w.heap.size wr v q (both (xs.take j) ys) ∧ Below w.heap.size w wr) (fun _ i _ => n - (intOf i).toNat)
  case atStart => exact ⟨0, Nat.zero_le _, rfl, 0, by rw [List.take_zero]; exact own_empty (Nat.le_refl _), (Below.refl _ _).alloc (Nat.le_refl _) _⟩
  case round =>
    obtain ⟨j, hj, rfl, q, hown, hbl⟩ := hrel
    have hsz := hbl.size
    replace hi := hi.below hbl
    replace hi' := hi'.below hbl
    have hq : q ≤ 1048576 := by have := hown.len; have := both_len (xs.take j) ys; have : (xs.take j).length ≤ j := List.length_take_le _ _; omega
    by_cases hlt : j < n
    · obtain ⟨b1, off, x, rfl, hc, hx, hx1, hx2⟩ := hi.get hlt
      have hcall := contains_any _ _ cap' _ x _ hi'
      obtain ⟨t, ht⟩ : ∃ t, t = has ys x := ⟨_, rfl⟩
      rw [← ht] at hcall
      have HC := Lib.hid hcall
      clear hcall
      cases t with
      | true =>
        have HB := Lib.hid (both_yes (show j < xs.length by omega) hx.out ht.symm)
        clear ht hi hl
        go_wp2_with (first
          | (go_at_call 39; refine (HC.out).mono ?_; rintro e w' ⟨rfl, rfl⟩)
          | (at_builtin; refine wpList_app1 _ _ _ _ _ _ hown hbl hsz ⟨by omega, by omega⟩ (by omega) rfl rfl rfl rfl ?_; intro v' w1 hown' hb' hsz'))
        rw [← HB.out] at hown'
        go_roundw
        case rel => exact ⟨j + 1, by omega, by go_num, q + 1, hown', hb'⟩
        case measure => simp [intOf]; omega
      | false =>
        rw [← both_no (show j < xs.length by omega) hx.out ht.symm] at hown
        have HO := Lib.hid hown
        clear ht hi hl hown
        go_wp2_with (first
          | (go_at_call 39; refine (HC.out).mono ?_; rintro e w' ⟨rfl, rfl⟩))
        go_roundw
        case rel => exact ⟨j + 1, by omega, by go_num, q, HO.out, hbl⟩
        case measure => simp [intOf]; omega
    · obtain rfl : j = n := by omega
      obtain ⟨a', cap2, rfl, _⟩ := own_form hown.row
      rw [both_end (by omega)] at hown
      have HO := Lib.hid hown
      clear hown hi hi' hl
      go_wp2
      go_ret
      exact ⟨_, rfl, HO.out.own, hbl⟩

end Go.Proofs.Ytpgfkjcekhifiaa

/- Contracts: neighbors and connected masks. -/
namespace Go.Proofs.Ytpgfkjcekhifiaa
open Go.RowKit
set_option linter.unusedVariables false
set_option linter.unusedSimpArgs false
set_option synthInstance.maxSize 2000
set_option synthInstance.maxHeartbeats 400000

set_option maxHeartbeats 2000000 in
theorem neighbors_any (cs : List Value) (x : DQ) (K n : Nat) (w : World) (h : rQ.rep w cs x) (hq : QOk x n) (hK : K < 16) :
    Calls Try.prog 30 #[.agg cs.toArray, .int .i64 K] w fun e w' => e = .returned (.int .i64 (near x K)) ∧ Below w.heap.size w w' := by
  obtain ⟨ub, un, uc, rfl, hi, g1⟩ := rQ_open h
  clear hi
  have t0 := rS_sl g1
  have hl := t0.len
  have hl4 := hq.len
  have hun : un ≤ 4 := by omega
  have HQ := Lib.hid hq
  have HB := Lib.hid (show near x K = nearFrom K (bitsOf x K) 0 0 (x.2.drop 0) by simp [near])
  clear hl4
  have hb0 : Below w.heap.size w w := Below.refl _ _
  go_enter Try.func30, Try.ntmps30
  obtain ⟨w1, hw1⟩ : ∃ W, W = w.alloc (.cells #[.int .i64 x.1, .slice ub un uc] 26) := ⟨_, rfl⟩
  have z1 : Below w.heap.size w w1 := by rw [hw1]; exact (Below.refl _ _).alloc (Nat.le_refl _) _
  have s1 : w1.heap.size = w.heap.size + 1 := by rw [hw1]; simp
  have hb1 := on hb0 z1
  have b_0 : w1.cell? ⟨w.heap.size, 0, none⟩ = some (.int .i64 x.1) := by rw [hw1]; exact box_cell (Below.refl _ _) rfl
  have b_1 : w1.cell? ⟨w.heap.size, 1, none⟩ = some (.slice ub un uc) := by rw [hw1]; exact box_cell (Below.refl _ _) rfl
  have raw1_b_0 := b_0
  have raw1_b_1 := b_1
  rw [hw1] at raw1_b_0 raw1_b_1
  go_wp2_with fail
  rw [← hw1]
  clear hw1
  clear raw1_b_0 raw1_b_1
  refine (variables_any _ x K n _ (rQ.mono h hb1) hq hK).mono ?_
  rintro e w9 ⟨u, rfl, ho, z9⟩
  obtain ⟨vb9, vn9, vc9, rfl⟩ := oI_form1 ho
  have s2 := z9.size
  have hb2 := on hb1 z9
  replace b_0 := (z9.cell (p := ⟨w.heap.size, 0, none⟩) (by simp only []; omega)).trans b_0
  replace b_1 := (z9.cell (p := ⟨w.heap.size, 1, none⟩) (by simp only []; omega)).trans b_1
  clear hq
  go_wp2_with fail
  go_loopw [6, 15] (fun s k wr => ∃ j m : Nat, j ≤ un ∧ m < 2 ^ un ∧ k = .int .i64 j ∧ s = .int .i64 m ∧ Hid (near x K = nearFrom K (bitsOf x K) m j (x.2.drop j)) ∧ Below w9.heap.size w9 wr) (fun _ k _ => un - (intOf k).toNat)
  case atStart => exact ⟨0, 0, Nat.zero_le _, Nat.two_pow_pos _, rfl, rfl, HB.out, Below.refl _ _⟩
  case round =>
    obtain ⟨j, m, hj, hm, rfl, rfl, hE, hdr⟩ := hrel
    obtain ⟨wo, rfl⟩ : ∃ W, W = wr := ⟨_, rfl⟩
    have hlc := hdr
    have s3 := hdr.size
    have hb3 := on hb2 hdr
    replace b_0 := (hdr.cell (p := ⟨w.heap.size, 0, none⟩) (by simp only []; omega)).trans b_0
    replace b_1 := (hdr.cell (p := ⟨w.heap.size, 1, none⟩) (by simp only []; omega)).trans b_1
    replace ho := ho.below hdr (by omega)
    have hm16 := pow_le16 hun
    by_cases hlt : j < un
    · obtain ⟨b1, o1, cs, y, rfl, hx, hr, hc⟩ := t0.at hlt
      obtain ⟨s, vs⟩ := y
      obtain ⟨vb, vn, vc, rfl, hs, g2⟩ := rA_open hr
      simp only at hs g2
      have e_lt : b1 < w.heap.size := cell_lt (hc 0 _ rfl)
      have e_0 : wo.cell? ⟨b1, o1 + j * 2, none⟩ = some (.string s) := (hb3.cell (p := ⟨b1, o1 + j * 2, none⟩) e_lt).trans (by have h9 := hc 0 _ rfl; rw [← Nat.add_assoc] at h9; exact h9)
      have e_1 : wo.cell? ⟨b1, o1 + j * 2 + 1, none⟩ = some (.slice vb vn vc) := (hb3.cell (p := ⟨b1, o1 + j * 2 + 1, none⟩) e_lt).trans (by have h9 := hc 1 _ rfl; rw [← Nat.add_assoc] at h9; exact h9)
      have HA := Lib.hid (hE.out.trans (nearFrom_at hx.out))
      have HX := Lib.hid (List.mem_of_getElem? hx.out)
      have HV := Lib.hid (both_pos HQ.out HX.out K)
      have HVL := Lib.hid (HQ.out.vlen _ HX.out)
      clear hc t0 hr hl hx hE HB
      simp only at HA HV HVL
      obtain ⟨w4, hw4⟩ : ∃ W, W = wo.alloc (.cells #[.string s, .slice vb vn vc] 49) := ⟨_, rfl⟩
      have z4 : Below wo.heap.size wo w4 := by rw [hw4]; exact (Below.refl _ _).alloc (Nat.le_refl _) _
      have s4 : w4.heap.size = wo.heap.size + 1 := by rw [hw4]; simp
      have hb4 := on hb3 z4
      have old4_b_0 := b_0
      have old4_b_1 := b_1
      have old4_e_0 := e_0
      have old4_e_1 := e_1
      replace b_0 := (z4.cell (p := ⟨w.heap.size, 0, none⟩) (by simp only []; omega)).trans b_0
      replace b_1 := (z4.cell (p := ⟨w.heap.size, 1, none⟩) (by simp only []; omega)).trans b_1
      replace ho := ho.below z4 (by omega)
      replace hlc := on hlc z4
      replace e_0 := (z4.cell (p := ⟨b1, o1 + j * 2, none⟩) (by simp only []; omega)).trans e_0
      replace e_1 := (z4.cell (p := ⟨b1, o1 + j * 2 + 1, none⟩) (by simp only []; omega)).trans e_1
      have p_0 : w4.cell? ⟨wo.heap.size, 0, none⟩ = some (.string s) := by rw [hw4]; exact box_cell (Below.refl _ _) rfl
      have p_1 : w4.cell? ⟨wo.heap.size, 1, none⟩ = some (.slice vb vn vc) := by rw [hw4]; exact box_cell (Below.refl _ _) rfl
      have raw4_b_0 := b_0
      have raw4_b_1 := b_1
      have raw4_e_0 := e_0
      have raw4_e_1 := e_1
      have raw4_p_0 := p_0
      have raw4_p_1 := p_1
      rw [hw4] at raw4_b_0 raw4_b_1 raw4_e_0 raw4_e_1 raw4_p_0 raw4_p_1
      have hbt := bit_test0 K j (by omega)
      cases hb : bitAt K j with
      | true =>
        rw [hb] at HA hbt
        replace HA : Hid (near x K = nearFrom K (bitsOf x K) m (j + 1) (x.2.drop (j + 1))) := Lib.hid (by rw [HA.out]; simp)
        simp only [Bool.not_true] at hbt
        clear hb
        go_wp2_with fail
        rw [← hw4]
        clear hw4
        clear old4_b_0 old4_b_1 old4_e_0 old4_e_1 raw4_b_0 raw4_b_1 raw4_e_0 raw4_e_1 raw4_p_0 raw4_p_1
        go_roundw
        case rel => exact ⟨j + 1, m, by omega, hm, by go_num, rfl, HA.out, hlc⟩
        case measure => simp [intOf]; omega
      | false =>
        rw [hb] at HA hbt
        simp only [Bool.not_false, Bool.true_and] at HA hbt
        clear hb
        go_wp2_with fail
        rw [← hw4]
        clear hw4
        clear old4_b_0 old4_b_1 old4_e_0 old4_e_1 raw4_b_0 raw4_b_1 raw4_e_0 raw4_e_1 raw4_p_0 raw4_p_1
        refine (both_any _ _ vs (varsOf x K) _ (rI.mono g2 hb4) (ho.rd reads_I) (by have := HVL.out; omega)).mono ?_
        rintro e w8 ⟨u, rfl, ho2, z8⟩
        obtain ⟨vb8, vn8, vc8, rfl⟩ := oI_form1 ho2
        have hv8 := (rI_ints (ho2.rd reads_I)).len
        have s5 := z8.size
        have hb5 := on hb4 z8
        replace b_0 := (z8.cell (p := ⟨w.heap.size, 0, none⟩) (by simp only []; omega)).trans b_0
        replace b_1 := (z8.cell (p := ⟨w.heap.size, 1, none⟩) (by simp only []; omega)).trans b_1
        replace ho := ho.below z8 (by omega)
        replace hlc := on hlc z8
        replace e_0 := (z8.cell (p := ⟨b1, o1 + j * 2, none⟩) (by simp only []; omega)).trans e_0
        replace e_1 := (z8.cell (p := ⟨b1, o1 + j * 2 + 1, none⟩) (by simp only []; omega)).trans e_1
        replace p_0 := (z8.cell (p := ⟨wo.heap.size, 0, none⟩) (by simp only []; omega)).trans p_0
        replace p_1 := (z8.cell (p := ⟨wo.heap.size, 1, none⟩) (by simp only []; omega)).trans p_1
        obtain ⟨t, ht⟩ : ∃ t, t = decide (vbits 0 vs &&& bitsOf x K ≠ 0) := ⟨_, rfl⟩
        have hd : decide (0 < vn8) = t := by rw [ht, ← HV.out, hv8]
        rw [← ht] at HA
        have HT := Lib.hid ht
        clear ht hv8 ho2
        cases t with
        | true =>
          replace HA : Hid (near x K = nearFrom K (bitsOf x K) (m ||| 2 ^ j) (j + 1) (x.2.drop (j + 1))) := Lib.hid (by rw [HA.out]; simp)
          have hmo := or_lt hm hlt
          go_wp2_with fail
          go_roundw
          case rel => exact ⟨j + 1, m ||| 2 ^ j, by omega, hmo, by go_num, by show Value.int _ _ = _; rw [or_pow (by omega) (by omega)], HA.out, hlc⟩
          case measure => simp [intOf]; omega
        | false =>
          replace HA : Hid (near x K = nearFrom K (bitsOf x K) m (j + 1) (x.2.drop (j + 1))) := Lib.hid (by rw [HA.out]; simp)
          go_wp2_with fail
          go_roundw
          case rel => exact ⟨j + 1, m, by omega, hm, by go_num, rfl, HA.out, hlc⟩
          case measure => simp [intOf]; omega
    · have HE := Lib.hid (hE.out.trans (nearFrom_end (by omega)))
      clear t0 hl hE HB ho
      go_wp2_with fail
      go_ret
      exact ⟨ret_int (by rw [HE.out]), hb3⟩

set_option maxHeartbeats 2000000 in
theorem l8Near_any (cs : List Value) (x : DQ) (K n : Nat) (w : World) (h : rQ.rep w cs x) (hq : QOk x n) (hK : K < 16) :
    Calls Try.prog 32 #[.agg cs.toArray, .int .i64 K] w fun e w' => e = .returned (.int .i64 (near x K)) ∧ Below w.heap.size w w' := by
  obtain ⟨ub, un, uc, rfl, hi, g1⟩ := rQ_open h
  clear hi
  have t0 := rS_sl g1
  have hl := t0.len
  have hl4 := hq.len
  have hun : un ≤ 4 := by omega
  have HQ := Lib.hid hq
  have HB := Lib.hid (show near x K = nearFrom K (bitsOf x K) 0 0 (x.2.drop 0) by simp [near])
  have hB16 : bitsOf x K < 16 := Nat.lt_of_lt_of_le (hq.bits_lt K) (pow_le16 hq.le)
  clear hl4
  have hb0 : Below w.heap.size w w := Below.refl _ _
  go_enter Try.func32, Try.ntmps32
  obtain ⟨w1, hw1⟩ : ∃ W, W = w.alloc (.cells #[.int .i64 x.1, .slice ub un uc] 26) := ⟨_, rfl⟩
  have z1 : Below w.heap.size w w1 := by rw [hw1]; exact (Below.refl _ _).alloc (Nat.le_refl _) _
  have s1 : w1.heap.size = w.heap.size + 1 := by rw [hw1]; simp
  have hb1 := on hb0 z1
  have b_0 : w1.cell? ⟨w.heap.size, 0, none⟩ = some (.int .i64 x.1) := by rw [hw1]; exact box_cell (Below.refl _ _) rfl
  have b_1 : w1.cell? ⟨w.heap.size, 1, none⟩ = some (.slice ub un uc) := by rw [hw1]; exact box_cell (Below.refl _ _) rfl
  have raw1_b_0 := b_0
  have raw1_b_1 := b_1
  rw [hw1] at raw1_b_0 raw1_b_1
  go_wp2_with fail
  rw [← hw1]
  clear hw1
  clear raw1_b_0 raw1_b_1
  refine (l7Bits_any _ x K n _ (rQ.mono h hb1) hq hK).mono ?_
  rintro e w2 ⟨rfl, z2⟩
  have s3 := z2.size
  have hb3 := on hb1 z2
  replace b_0 := (z2.cell (p := ⟨w.heap.size, 0, none⟩) (by simp only []; omega)).trans b_0
  replace b_1 := (z2.cell (p := ⟨w.heap.size, 1, none⟩) (by simp only []; omega)).trans b_1
  clear hq
  obtain ⟨B, hB⟩ : ∃ B, B = bitsOf x K := ⟨_, rfl⟩
  rw [← hB] at HB hB16 ⊢
  clear hB
  go_wp2_with fail
  go_loopw [5, 7] (fun s k wr => ∃ j m : Nat, j ≤ un ∧ m < 2 ^ un ∧ k = .int .i64 j ∧ s = .int .i64 m ∧ Hid (near x K = nearFrom K B m j (x.2.drop j)) ∧ Below w2.heap.size w2 wr) (fun _ k _ => un - (intOf k).toNat)
  case atStart => exact ⟨0, 0, Nat.zero_le _, Nat.two_pow_pos _, rfl, rfl, HB.out, Below.refl _ _⟩
  case round =>
    obtain ⟨j, m, hj, hm, rfl, rfl, hE, hdr⟩ := hrel
    obtain ⟨wo, rfl⟩ : ∃ W, W = wr := ⟨_, rfl⟩
    have hlc := hdr
    have s4 := hdr.size
    have hb4 := on hb3 hdr
    replace b_0 := (hdr.cell (p := ⟨w.heap.size, 0, none⟩) (by simp only []; omega)).trans b_0
    replace b_1 := (hdr.cell (p := ⟨w.heap.size, 1, none⟩) (by simp only []; omega)).trans b_1
    have hm16 := pow_le16 hun
    by_cases hlt : j < un
    · obtain ⟨y, hy⟩ : ∃ y, x.2[j]? = some y := ⟨_, List.getElem?_eq_getElem (by omega)⟩
      have HA := Lib.hid (hE.out.trans (nearFrom_at hy))
      have HP := Lib.hid (bitsOf_pow hy)
      have hP16 : bitsOf x (2 ^ j) < 16 := Nat.lt_of_lt_of_le (HQ.out.bits_lt _) (pow_le16 HQ.out.le)
      clear t0 hl hE HB hy
      have hbt := bit_test0 K j (by omega)
      cases hb : bitAt K j with
      | true =>
        rw [hb] at HA hbt
        replace HA : Hid (near x K = nearFrom K B m (j + 1) (x.2.drop (j + 1))) := Lib.hid (by rw [HA.out]; simp)
        simp only [Bool.not_true] at hbt
        clear hb
        go_wp2_with fail
        go_quiet (fail)
        go_wp2_with fail
        go_roundw
        case rel => exact ⟨j + 1, m, by omega, hm, by go_num, rfl, HA.out, hlc.trans (Drew.below ⟨_, rfl⟩ _)⟩
        case measure => simp [intOf]; omega
      | false =>
        rw [hb] at HA hbt
        simp only [Bool.not_false, Bool.true_and] at HA hbt
        rw [← HP.out] at HA
        clear hb HP
        have h2j : 2 ^ j < 16 := Nat.lt_of_lt_of_le (Nat.pow_lt_pow_right (by decide) hlt) hm16
        have hw1 := wrap_pow (show j ≤ 16 by omega)
        obtain ⟨J, hJ⟩ : ∃ J, J = 2 ^ j := ⟨_, rfl⟩
        obtain ⟨C, hC⟩ : ∃ C, C = bitsOf x (2 ^ j) := ⟨_, rfl⟩
        have hJ16 : J < 16 := by rw [hJ]; exact h2j
        have hcall := fun W (hW : rQ.rep W [.int .i64 x.1, .slice ub un uc] x) => l7Bits_any _ x J n W hW HQ.out hJ16
        rw [← hC] at HA hP16
        rw [← hJ] at hC hw1
        clear h2j
        have hw2 := hw1
        rw [← IntWalk.i64_left] at hw2
        rw [← hC] at hcall
        have hba := bits_and_nat C B (by omega) (by omega)
        obtain ⟨t, ht⟩ : ∃ t, t = decide (C &&& B ≠ 0) := ⟨_, rfl⟩
        have hne : (((C &&& B : Nat) : Int) != 0) = t := by
          rw [ht, Bool.eq_iff_iff]
          simp
        rw [← ht] at HA
        have HC := Lib.hid hcall
        have HJ := Lib.hid hJ
        clear hcall ht hC hJ
        go_wp2_with fail
        go_region_held3 (fun W => W.cell? ⟨w.heap.size, 0, none⟩ = some (.int .i64 x.1) ∧ W.cell? ⟨w.heap.size, 1, none⟩ = some (.slice ub un uc)) (first | exact ⟨b_0, b_1⟩ | assumption) (first | (go_at_call 43; (with_reducible refine (HC.out _ (rQ.mono h hb4.drew)).mono ?_); rintro e w5 ⟨rfl, z5⟩; replace z5 : Below wo.heap.size wo w5 := on (Below.refl _ _).drew z5; have sz5 := z5.size; have hS5 := (⟨(z5.cell (p := ⟨w.heap.size, 0, none⟩) (by simp only []; omega)).trans b_0, (z5.cell (p := ⟨w.heap.size, 1, none⟩) (by simp only []; omega)).trans b_1⟩ : (fun W => W.cell? ⟨w.heap.size, 0, none⟩ = some (.int .i64 x.1) ∧ W.cell? ⟨w.heap.size, 1, none⟩ = some (.slice ub un uc)) w5); have hx5 := on hb4 z5))
        replace z5 : Below wo.heap.size wo w5 := z5
        clear hS5 hx5
        have s6 := z5.size
        have hb6 := on hb4 z5
        replace b_0 := (z5.cell (p := ⟨w.heap.size, 0, none⟩) (by simp only []; omega)).trans b_0
        replace b_1 := (z5.cell (p := ⟨w.heap.size, 1, none⟩) (by simp only []; omega)).trans b_1
        replace hlc := on hlc z5
        clear hw2
        cases t with
        | true =>
          replace HA : Hid (near x K = nearFrom K B (m ||| 2 ^ j) (j + 1) (x.2.drop (j + 1))) := Lib.hid (by rw [HA.out]; simp)
          have hmo := or_lt hm hlt
          clear hba hne
          go_wp2_with fail
          go_roundw
          case rel => exact ⟨j + 1, m ||| 2 ^ j, by omega, hmo, by go_num, by show Value.int _ _ = _; rw [← hw1, or_pow (by omega) (by omega)], HA.out, hlc⟩
          case measure => simp [intOf]; omega
        | false =>
          replace HA : Hid (near x K = nearFrom K B m (j + 1) (x.2.drop (j + 1))) := Lib.hid (by rw [HA.out]; simp)
          clear hba hne hw1
          go_wp2_with fail
          go_roundw
          case rel => exact ⟨j + 1, m, by omega, hm, by go_num, rfl, HA.out, hlc⟩
          case measure => simp [intOf]; omega
    · have HE := Lib.hid (hE.out.trans (nearFrom_end (by omega)))
      clear t0 hl hE HB
      go_wp2_with fail
      go_ret
      exact ⟨ret_int (by rw [HE.out]), hb4⟩

end Go.Proofs.Ytpgfkjcekhifiaa

/- Contracts: shared variables. -/
namespace Go.Proofs.Ytpgfkjcekhifiaa
open Go.RowKit
set_option linter.unusedVariables false
set_option linter.unusedSimpArgs false
set_option synthInstance.maxSize 2000
set_option synthInstance.maxHeartbeats 400000

/-- SharedVariables. -/
def sharedVars (q : DQ) (a b : Int) : List Int := both (maskVars q a) (maskVars q b)

theorem shared_cnt (q : DQ) (a b : Int) : cnt_I (sharedVars q a b) ≤ 4 := Nat.le_trans (both_len _ _) (maskVars_len q a)

set_option maxHeartbeats 2000000 in
theorem shared_spec (cs : List Value) (x : DQ) (k l : Int) (w : World) (h : rQ.rep w cs x) :
    Calls Try.prog 14 #[.agg cs.toArray, .int .i64 k, .int .i64 l] w fun e w' => ∃ u, e = .returned u ∧ Own oI w.heap.size w'.heap.size w' [u] (sharedVars x k l) ∧ Below w.heap.size w w' := by
  obtain ⟨ub, un, uc, rfl⟩ := rQ_form h
  have hb0 : Below w.heap.size w w := Below.refl _ _
  have hml := maskVars_len x k
  go_enter Try.func14, Try.ntmps14
  obtain ⟨w1, hw1⟩ : ∃ W, W = w.alloc (.cells #[.int .i64 x.1, .slice ub un uc] 26) := ⟨_, rfl⟩
  have z1 : Below w.heap.size w w1 := by rw [hw1]; exact (Below.refl _ _).alloc (Nat.le_refl _) _
  have s1 : w1.heap.size = w.heap.size + 1 := by rw [hw1]; simp
  have hb1 := on hb0 z1
  have b_0 : w1.cell? ⟨w.heap.size, 0, none⟩ = some (.int .i64 x.1) := by rw [hw1]; exact box_cell (Below.refl _ _) rfl
  have b_1 : w1.cell? ⟨w.heap.size, 1, none⟩ = some (.slice ub un uc) := by rw [hw1]; exact box_cell (Below.refl _ _) rfl
  have raw1_b_0 := b_0
  have raw1_b_1 := b_1
  rw [hw1] at raw1_b_0 raw1_b_1
  obtain ⟨w2, hw2⟩ : ∃ W, W = w1.alloc (.cells #[] 3) := ⟨_, rfl⟩
  have z2 : Below w1.heap.size w1 w2 := by rw [hw2]; exact (Below.refl _ _).alloc (Nat.le_refl _) _
  have s2 : w2.heap.size = w1.heap.size + 1 := by rw [hw2]; simp
  have hb2 := on hb1 z2
  replace b_0 := (z2.cell (p := ⟨w.heap.size, 0, none⟩) (by simp only []; omega)).trans b_0
  replace b_1 := (z2.cell (p := ⟨w.heap.size, 1, none⟩) (by simp only []; omega)).trans b_1
  have ho : ∀ S, Acc 3 O.int w1.heap.size S w2.heap.size w2 (.slice (some ⟨w.heap.size + 1, 0, none⟩) 0 0) [] := fun S => by rw [hw2]; exact Acc.empty (by omega) (by simp; omega)
  obtain ⟨xs, hxs⟩ : ∃ xs, xs = maskVars x k := ⟨_, rfl⟩
  obtain ⟨ys, hys⟩ : ∃ ys, ys = maskVars x l := ⟨_, rfl⟩
  have HR := Lib.hid (show both xs ys = sharedVars x k l by rw [hxs, hys]; rfl)
  have C1 := maskVars_spec [.int .i64 x.1, .slice ub un uc] x k
  have C2 := maskVars_spec [.int .i64 x.1, .slice ub un uc] x l
  rw [← hxs] at C1 hml
  rw [← hys] at C2
  clear hxs hys
  go_wp2_with fail
  rw [← hw1]
  rw [← hw2]
  clear hw2 hw1
  clear raw1_b_0 raw1_b_1
  refine (C1 _ (rQ.mono h hb2)).mono ?_
  rintro e w11 ⟨u1, rfl, o1, z11⟩
  obtain ⟨a1, n1, c1, rfl⟩ := oI_form1 o1
  have s3 := z11.size
  have hb3 := on hb2 z11
  replace b_0 := (z11.cell (p := ⟨w.heap.size, 0, none⟩) (by simp only []; omega)).trans b_0
  replace b_1 := (z11.cell (p := ⟨w.heap.size, 1, none⟩) (by simp only []; omega)).trans b_1
  replace ho := fun S => (ho S).below z11 (by omega)
  go_wp2_with fail
  refine (C2 _ (rQ.mono h hb3)).mono ?_
  rintro e w12 ⟨u2, rfl, o2, z12⟩
  obtain ⟨a2, n2, c2, rfl⟩ := oI_form1 o2
  have s4 := z12.size
  have hb4 := on hb3 z12
  replace b_0 := (z12.cell (p := ⟨w.heap.size, 0, none⟩) (by simp only []; omega)).trans b_0
  replace b_1 := (z12.cell (p := ⟨w.heap.size, 1, none⟩) (by simp only []; omega)).trans b_1
  replace ho := fun S => (ho S).below z12 (by omega)
  replace o1 := o1.below z12 (by omega)
  clear C1 C2
  have hl := (rI_ints (o1.rd reads_I)).len
  have hn := (rI_ints (o1.rd reads_I)).small
  go_wp2_with fail
  go_loopw [7, 10] (fun v i wr => ∃ (j : Nat), j ≤ n1 ∧ i = .int .i64 j ∧ Acc 3 O.int w1.heap.size w12.heap.size wr.heap.size wr v (both (xs.take j) ys) ∧ Turn w1.heap.size (w1.heap.size + 1) w12 wr) (fun _ i _ => n1 - (intOf i).toNat)
  case atStart => exact ⟨0, Nat.zero_le _, rfl, by rw [List.take_zero]; exact (ho _).wide (Nat.le_refl _) (by omega), turn_refl _ _ _⟩
  case round =>
    obtain ⟨j, hj, rfl, hacc, hdr⟩ := hrel
    have hlc := hdr
    replace o1 := o1.turn hdr (by omega)
    replace o2 := o2.turn hdr (by omega)
    have hi := rI_ints (o1.rd reads_I)
    have hi' := rI_ints (o2.rd reads_I)
    have s5 := hdr.size
    have hb5 := hb4.trans ((hdr.below (by omega)).mono (by omega))
    replace b_0 := (hdr.cell (p := ⟨w.heap.size, 0, none⟩) (by simp only []; omega) (by simp only []; omega)).trans b_0
    replace b_1 := (hdr.cell (p := ⟨w.heap.size, 1, none⟩) (by simp only []; omega) (by simp only []; omega)).trans b_1
    have hbl : (both (xs.take j) ys).length ≤ 4 := by have h1 := both_len (xs.take j) ys; have h2 : (xs.take j).length ≤ j := List.length_take_le _ _; omega
    by_cases hlt : j < n1
    · obtain ⟨b1, off, x, rfl, hc, hx, hx1, hx2⟩ := hi.get hlt
      have hcall := l7Has_any _ _ c2 _ x wr hi'
      obtain ⟨t, ht⟩ : ∃ t, t = has ys x := ⟨_, rfl⟩
      rw [← ht] at hcall
      have HC := Lib.hid hcall
      clear hcall
      cases t with
      | true =>
        have HB := Lib.hid (both_yes (show j < xs.length by omega) hx.out ht.symm)
        clear ht hi hl o1 o2 ho
        go_wp2_with (first
          | (go_at_call 29; refine (HC.out).mono ?_; rintro e w' ⟨rfl, rfl⟩)
          | (at_builtin; refine wpList_accI _ _ _ _ _ hacc hlc rfl (by omega) (Nat.le_refl _) ⟨by omega, by omega⟩ (by omega) rfl rfl rfl rfl rfl ?_; intro v' w1 hacc' ht' hsz'))
        rw [← HB.out] at hacc'
        go_roundw
        case rel => exact ⟨j + 1, by omega, by go_num, hacc', ht'⟩
        case measure => simp [intOf]; omega
      | false =>
        rw [← both_no (show j < xs.length by omega) hx.out ht.symm] at hacc
        have HO := Lib.hid hacc
        clear ht hi hl hacc o1 o2 ho
        go_wp2_with (go_at_call 29; refine (HC.out).mono ?_; rintro e w' ⟨rfl, rfl⟩)
        go_roundw
        case rel => exact ⟨j + 1, by omega, by go_num, HO.out, hlc⟩
        case measure => simp [intOf]; omega
    · obtain rfl : j = n1 := by omega
      obtain ⟨a', n', cap2, rfl⟩ := hacc.form3
      rw [both_end (by omega), HR.out] at hacc
      have HO := Lib.hid (hacc.own (B := w.heap.size) (by omega) (by omega) (Nat.le_refl _))
      clear hacc hi hi' hl o1 o2 ho
      go_wp2_with fail
      go_ret
      exact ⟨_, rfl, HO.out, hb5⟩

end Go.Proofs.Ytpgfkjcekhifiaa

/- Contracts: connected masks. -/
namespace Go.Proofs.Ytpgfkjcekhifiaa
open Go.RowKit
set_option linter.unusedVariables false
set_option linter.unusedSimpArgs false
set_option synthInstance.maxSize 2000
set_option synthInstance.maxHeartbeats 400000

theorem low_int : ∀ K, K < 16 → bits .and .i64 ((K : Nat) : Int) (-((K : Nat) : Int)) = ((lowB K : Nat) : Int) := by decide +kernel
theorem low_zero : ∀ K : Nat, K < 16 → K ≠ 0 → ((K : Int) == 0) = false := by
  intro K _ h; rw [beq_eq_false_iff_ne]; omega

set_option maxHeartbeats 2000000 in
theorem connected_any (cs : List Value) (x : DQ) (K n : Nat) (w : World) (h : rQ.rep w cs x) (hq : QOk x n) (hK : K < 2 ^ x.2.length) :
    Calls Try.prog 22 #[.agg cs.toArray, .int .i64 K] w fun e w' => e = .returned (.bool (conn x K)) ∧ Below w.heap.size w w' := by
  obtain ⟨ub, un, uc, rfl⟩ := rQ_form h
  have hb0 : Below w.heap.size w w := Below.refl _ _
  have hl4 := hq.len
  have hK16 : K < 16 := Nat.lt_of_lt_of_le hK (pow_le16 hl4)
  have HQ := Lib.hid hq
  have HK := Lib.hid hK
  clear hq hK
  by_cases h0 : K = 0
  · subst h0
    have HE := Lib.hid (show conn x 0 = false by simp [conn])
    go_enter Try.func22, Try.ntmps22
    obtain ⟨w1, hw1⟩ : ∃ W, W = w.alloc (.cells #[.int .i64 x.1, .slice ub un uc] 26) := ⟨_, rfl⟩
    have z1 : Below w.heap.size w w1 := by rw [hw1]; exact (Below.refl _ _).alloc (Nat.le_refl _) _
    have s1 : w1.heap.size = w.heap.size + 1 := by rw [hw1]; simp
    have hb1 := on hb0 z1
    have b_0 : w1.cell? ⟨w.heap.size, 0, none⟩ = some (.int .i64 x.1) := by rw [hw1]; exact box_cell (Below.refl _ _) rfl
    have b_1 : w1.cell? ⟨w.heap.size, 1, none⟩ = some (.slice ub un uc) := by rw [hw1]; exact box_cell (Below.refl _ _) rfl
    have raw1_b_0 := b_0
    have raw1_b_1 := b_1
    rw [hw1] at raw1_b_0 raw1_b_1
    go_wp2_with fail
    go_ret
    exact ⟨ret_bool HE.out.symm, by first | exact hb1 | (rw [hw1] at hb1; exact hb1)⟩
  have HC := Lib.hid (show conn x K = joined x K by simp [conn, h0])
  have hz := low_zero K hK16 h0
  have hlow := low_int K hK16
  obtain ⟨l1, l2, l3⟩ := low_facts K hK16
  have l4 := l3 h0
  obtain ⟨L, hL⟩ : ∃ L, L = lowB K := ⟨_, rfl⟩
  rw [← hL] at hlow l1 l2 l4
  have HJ := Lib.hid (show joined x K = decide (iterM x K x.2.length L = K) by rw [joined, hL])
  have L1 := Lib.hid l1
  have L4 := Lib.hid l4
  clear h0 l1 l3 l4 hL
  have hlp := HQ.out.lpos
  go_enter Try.func22, Try.ntmps22
  obtain ⟨w2, hw2⟩ : ∃ W, W = w.alloc (.cells #[.int .i64 x.1, .slice ub un uc] 26) := ⟨_, rfl⟩
  have z2 : Below w.heap.size w w2 := by rw [hw2]; exact (Below.refl _ _).alloc (Nat.le_refl _) _
  have s2 : w2.heap.size = w.heap.size + 1 := by rw [hw2]; simp
  have hb2 := on hb0 z2
  have b_0 : w2.cell? ⟨w.heap.size, 0, none⟩ = some (.int .i64 x.1) := by rw [hw2]; exact box_cell (Below.refl _ _) rfl
  have b_1 : w2.cell? ⟨w.heap.size, 1, none⟩ = some (.slice ub un uc) := by rw [hw2]; exact box_cell (Below.refl _ _) rfl
  have raw2_b_0 := b_0
  have raw2_b_1 := b_1
  rw [hw2] at raw2_b_0 raw2_b_1
  go_wp2_with fail
  rw [← hw2]
  clear hw2
  clear raw2_b_0 raw2_b_1
  clear hlow
  go_loopw [5, 6] (fun s _ wr => ∃ g i : Nat, g < 16 ∧ i + 1 ≤ x.2.length ∧ s = .int .i64 g ∧ Hid (g ||| K = K ∧ i + 1 ≤ pc g) ∧ Hid (iterM x K x.2.length L = iterM x K (x.2.length - i) g) ∧ Below w2.heap.size w2 wr) (fun s _ _ => 16 - (intOf s).toNat)
  case atStart => exact ⟨L, 0, l2, hlp, rfl, Lib.hid ⟨L1.out, by rw [L4.out]; exact Nat.le_refl _⟩, rfl, Below.refl _ _⟩
  case round =>
    obtain ⟨g, i, hg, hi, rfl, hP, hE, hdr⟩ := hrel
    have hlc := hdr
    have s3 := hdr.size
    have hb3 := on hb2 hdr
    replace b_0 := (hdr.cell (p := ⟨w.heap.size, 0, none⟩) (by simp only []; omega)).trans b_0
    replace b_1 := (hdr.cell (p := ⟨w.heap.size, 1, none⟩) (by simp only []; omega)).trans b_1
    go_wp2_with fail
    refine (neighbors_any _ x g n _ (rQ.mono h hb3) HQ.out hg).mono ?_
    rintro e w4 ⟨rfl, z4⟩
    have s5 := z4.size
    have hb5 := on hb3 z4
    replace b_0 := (z4.cell (p := ⟨w.heap.size, 0, none⟩) (by simp only []; omega)).trans b_0
    replace b_1 := (z4.cell (p := ⟨w.heap.size, 1, none⟩) (by simp only []; omega)).trans b_1
    replace hlc := on hlc z4
    obtain ⟨N, hN⟩ : ∃ N, N = near x g := ⟨_, rfl⟩
    rw [← hN]
    have hN16 : N < 16 := by rw [hN]; exact Nat.lt_of_lt_of_le (near_lt x g) (pow_le16 hl4)
    have hS : stepM x K g = g ||| (N &&& K) := by rw [hN]; rfl
    have hS16 : stepM x K g < 16 := stepM_lt hl4 hg
    have ha := bits_and_nat N K (by omega) (by omega)
    have hNK : N &&& K < 16 := Nat.lt_of_le_of_lt Nat.and_le_left hN16
    have ho := bits_or_nat g (N &&& K) (by omega) (by omega)
    rw [← hS] at ho
    obtain ⟨S, hSS⟩ : ∃ S, S = stepM x K g := ⟨_, rfl⟩
    rw [← hSS] at ho hS16
    have HS := Lib.hid hSS
    clear hS hN hSS hNK
    by_cases hst : S = g
    · have HE := Lib.hid (show decide ((g : Int) = (K : Int)) = conn x K by
        rw [HC.out, HJ.out, hE.out, iterM_fix (HS.out.symm.trans hst)]
        rw [Bool.eq_iff_iff]; simp only [decide_eq_true_eq]; omega)
      rw [hst] at ho
      clear hst
      go_wp2_with fail
      go_ret
      exact ⟨ret_bool (by rw [← HE.out]; rfl), hb5⟩
    · have hroom := step_room hl4 hg HK.out hP.out.1 hP.out.2 (fun e => hst (HS.out.trans e))
      rw [← HS.out] at hroom
      have HP2 : Hid (S ||| K = K ∧ (i + 1) + 1 ≤ pc S) := Lib.hid ⟨by rw [HS.out]; exact stepM_sub hl4 hg hK16 hP.out.1, by omega⟩
      have HE2 : Hid (iterM x K x.2.length L = iterM x K (x.2.length - (i + 1)) S) := Lib.hid (by
        rw [hE.out, show x.2.length - i = (x.2.length - (i + 1)) + 1 by omega, iterM, ← HS.out])
      have hr2 := hroom.2
      have hgS : g < S := by
        have h1 : g ≤ S := by rw [HS.out]; exact Nat.left_le_or
        omega
      have hne : ((S : Int) == (g : Int)) = false := by rw [beq_eq_false_iff_ne]; omega
      clear hroom hst
      go_wp2_with fail
      go_roundw
      case rel => exact ⟨S, i + 1, hS16, by omega, rfl, HP2, HE2, hlc⟩
      case measure => simp [intOf]; omega

set_option maxHeartbeats 2000000 in
theorem joined_any (cs : List Value) (x : DQ) (K n : Nat) (w : World) (h : rQ.rep w cs x) (hq : QOk x n) (hK : K < 2 ^ x.2.length) :
    Calls Try.prog 23 #[.agg cs.toArray, .int .i64 K] w fun e w' => e = .returned (.bool (joined x K)) ∧ Below w.heap.size w w' := by
  obtain ⟨ub, un, uc, rfl, hi, g1⟩ := rQ_open h
  have hl := (rS_sl g1).len
  clear hi g1
  have hb0 : Below w.heap.size w w := Below.refl _ _
  have hl4 := hq.len
  have hK16 : K < 16 := Nat.lt_of_lt_of_le hK (pow_le16 hl4)
  have HQ := Lib.hid hq
  clear hq hK
  have hlow := low_int K hK16
  obtain ⟨l1, l2, l3⟩ := low_facts K hK16
  obtain ⟨L, hL⟩ : ∃ L, L = lowB K := ⟨_, rfl⟩
  rw [← hL] at hlow l2
  have HJ := Lib.hid (show joined x K = decide (iterM x K un L = K) by rw [joined, hL, hl])
  have hun : un ≤ 4 := by omega
  clear l1 l3 hL hl
  go_enter Try.func23, Try.ntmps23
  obtain ⟨w1, hw1⟩ : ∃ W, W = w.alloc (.cells #[.int .i64 x.1, .slice ub un uc] 26) := ⟨_, rfl⟩
  have z1 : Below w.heap.size w w1 := by rw [hw1]; exact (Below.refl _ _).alloc (Nat.le_refl _) _
  have s1 : w1.heap.size = w.heap.size + 1 := by rw [hw1]; simp
  have hb1 := on hb0 z1
  have b_0 : w1.cell? ⟨w.heap.size, 0, none⟩ = some (.int .i64 x.1) := by rw [hw1]; exact box_cell (Below.refl _ _) rfl
  have b_1 : w1.cell? ⟨w.heap.size, 1, none⟩ = some (.slice ub un uc) := by rw [hw1]; exact box_cell (Below.refl _ _) rfl
  have raw1_b_0 := b_0
  have raw1_b_1 := b_1
  rw [hw1] at raw1_b_0 raw1_b_1
  go_wp2_with fail
  rw [← hw1]
  clear hw1
  clear raw1_b_0 raw1_b_1
  clear hlow
  go_loopw [5, 6] (fun s k wr => ∃ g i : Nat, g < 16 ∧ i ≤ un ∧ k = .int .i64 i ∧ s = .int .i64 g ∧ Hid (iterM x K un L = iterM x K (un - i) g) ∧ Below w1.heap.size w1 wr) (fun _ k _ => un - (intOf k).toNat)
  case atStart => exact ⟨L, 0, l2, Nat.zero_le _, rfl, rfl, rfl, Below.refl _ _⟩
  case round =>
    obtain ⟨g, i, hg, hi, rfl, rfl, hE, hdr⟩ := hrel
    have hlc := hdr
    have s2 := hdr.size
    have hb2 := on hb1 hdr
    replace b_0 := (hdr.cell (p := ⟨w.heap.size, 0, none⟩) (by simp only []; omega)).trans b_0
    replace b_1 := (hdr.cell (p := ⟨w.heap.size, 1, none⟩) (by simp only []; omega)).trans b_1
    by_cases hlt : i < un
    · go_wp2_with fail
      refine (l8Near_any _ x g n _ (rQ.mono h hb2) HQ.out hg).mono ?_
      rintro e w3 ⟨rfl, z3⟩
      have s4 := z3.size
      have hb4 := on hb2 z3
      replace b_0 := (z3.cell (p := ⟨w.heap.size, 0, none⟩) (by simp only []; omega)).trans b_0
      replace b_1 := (z3.cell (p := ⟨w.heap.size, 1, none⟩) (by simp only []; omega)).trans b_1
      replace hlc := on hlc z3
      obtain ⟨N, hN⟩ : ∃ N, N = near x g := ⟨_, rfl⟩
      rw [← hN]
      have hN16 : N < 16 := by rw [hN]; exact Nat.lt_of_lt_of_le (near_lt x g) (pow_le16 hl4)
      have hS : stepM x K g = g ||| (N &&& K) := by rw [hN]; rfl
      have hS16 : stepM x K g < 16 := stepM_lt hl4 hg
      have ha := bits_and_nat N K (by omega) (by omega)
      have hNK : N &&& K < 16 := Nat.lt_of_le_of_lt Nat.and_le_left hN16
      have ho := bits_or_nat g (N &&& K) (by omega) (by omega)
      rw [← hS] at ho
      obtain ⟨S, hSS⟩ : ∃ S, S = stepM x K g := ⟨_, rfl⟩
      rw [← hSS] at ho hS16
      have HE2 : Hid (iterM x K un L = iterM x K (un - (i + 1)) S) := Lib.hid (by
        rw [hE.out, show un - i = (un - (i + 1)) + 1 by omega, iterM, ← hSS])
      clear hS hN hSS hNK
      go_wp2_with fail
      go_roundw
      case rel => exact ⟨S, i + 1, hS16, by omega, by go_num, rfl, HE2, hlc⟩
      case measure => simp [intOf]; omega
    · have HE := Lib.hid (show decide ((g : Int) = (K : Int)) = joined x K by
        rw [HJ.out, hE.out, show un - i = 0 by omega]
        show _ = decide (g = K)
        rw [Bool.eq_iff_iff]; simp only [decide_eq_true_eq]; omega)
      go_wp2_with fail
      go_ret
      exact ⟨ret_bool (by rw [← HE.out]; rfl), hb2⟩

end Go.Proofs.Ytpgfkjcekhifiaa

/- Contracts: neighbors and connected masks of a query. -/
namespace Go.Proofs.Ytpgfkjcekhifiaa
open Go.RowKit
set_option linter.unusedVariables false
set_option linter.unusedSimpArgs false
set_option synthInstance.maxSize 2000
set_option synthInstance.maxHeartbeats 400000

/-- NeighborMask. -/
def nearMask (q : DQ) (k : Int) : Int := if maskOkB q k then ((near q k.toNat : Nat) : Int) else 0
/-- IsConnected. -/
def isConn (q : DQ) (k : Int) : Bool := maskOkB q k && conn q k.toNat
theorem nearMask_no {q : DQ} {k : Int} (h : maskOkB q k = false) : nearMask q k = 0 := by simp [nearMask, h]
theorem nearMask_yes {q : DQ} {K : Nat} (h : maskOkB q (K : Int) = true) : nearMask q (K : Int) = ((near q K : Nat) : Int) := by simp [nearMask, h]
theorem isConn_no {q : DQ} {k : Int} (h : maskOkB q k = false) : isConn q k = false := by simp [isConn, h]
theorem isConn_yes {q : DQ} {K : Nat} (h : maskOkB q (K : Int) = true) : isConn q (K : Int) = conn q K := by simp [isConn, h]
theorem connMasks_no {q : DQ} (h : fullMask q = 0) : connMasks q = [] := by simp [connMasks, h, connTo]
theorem fullMask_nat (q : DQ) : ∃ M : Nat, fullMask q = M ∧ M < 16 ∧ (M ≠ 0 → validQ q = true ∧ M < 2 ^ q.2.length) ∧ connMasks q = connTo q M := by
  by_cases h : validQ q = true
  · obtain ⟨n, hq⟩ := QOk.of h
    have h1 := pow_le16 hq.len
    have h2 := Nat.two_pow_pos q.2.length
    refine ⟨2 ^ q.2.length - 1, fullMask_yes h, by omega, fun _ => ⟨h, by omega⟩, by rw [connMasks, fullMask_yes h]; rfl⟩
  · exact ⟨0, fullMask_no (by simpa using h), by omega, fun h => absurd rfl h, by rw [connMasks_no (fullMask_no (by simpa using h))]; rfl⟩
theorem connMasks_len (q : DQ) : (connMasks q).length ≤ 15 := by
  obtain ⟨M, _, h2, _, h4⟩ := fullMask_nat q
  rw [h4]; have := connTo_len q M; omega
theorem connMasks_cnt (q : DQ) : cnt_I (connMasks q) ≤ 15 := connMasks_len q
theorem conn_joined (q : DQ) (m : Nat) : conn q (m + 1) = joined q (m + 1) := by simp [conn]

set_option maxHeartbeats 1000000 in
theorem nearMask_impl (cs : List Value) (x : DQ) (k : Int) (w : World) (h : rQ.rep w cs x) :
    Calls Try.prog 17 #[.agg cs.toArray, .int .i64 k] w fun e w' => e = .returned (.int .i64 (nearMask x k)) ∧ Below w.heap.size w w' := by
  obtain ⟨ub, un, uc, rfl⟩ := rQ_form h
  have hb0 : Below w.heap.size w w := Below.refl _ _
  go_enter Try.func17, Try.ntmps17
  obtain ⟨w1, hw1⟩ : ∃ W, W = w.alloc (.cells #[.int .i64 x.1, .slice ub un uc] 26) := ⟨_, rfl⟩
  have z1 : Below w.heap.size w w1 := by rw [hw1]; exact (Below.refl _ _).alloc (Nat.le_refl _) _
  have s1 : w1.heap.size = w.heap.size + 1 := by rw [hw1]; simp
  have hb1 := on hb0 z1
  have b_0 : w1.cell? ⟨w.heap.size, 0, none⟩ = some (.int .i64 x.1) := by rw [hw1]; exact box_cell (Below.refl _ _) rfl
  have b_1 : w1.cell? ⟨w.heap.size, 1, none⟩ = some (.slice ub un uc) := by rw [hw1]; exact box_cell (Below.refl _ _) rfl
  have raw1_b_0 := b_0
  have raw1_b_1 := b_1
  rw [hw1] at raw1_b_0 raw1_b_1
  go_wp2_with fail
  rw [← hw1]
  clear hw1
  clear raw1_b_0 raw1_b_1
  refine (maskOk_impl _ x k _ (rQ.mono h hb1)).mono ?_
  rintro e w2 ⟨rfl, z2⟩
  have s3 := z2.size
  have hb3 := on hb1 z2
  replace b_0 := (z2.cell (p := ⟨w.heap.size, 0, none⟩) (by simp only []; omega)).trans b_0
  replace b_1 := (z2.cell (p := ⟨w.heap.size, 1, none⟩) (by simp only []; omega)).trans b_1
  by_cases hv : maskOkB x k = true
  case neg =>
    replace hv : maskOkB x k = false := by simpa using hv
    have HE := Lib.hid (nearMask_no hv)
    go_wp2_with fail
    go_ret
    exact ⟨ret_int HE.out.symm, hb3⟩
  obtain ⟨K, rfl, hK⟩ := maskOkB_lt hv
  obtain ⟨n, hq⟩ := QOk.of (maskOkB_valid hv)
  have HE := Lib.hid (nearMask_yes hv)
  have hK16 : K < 16 := Nat.lt_of_lt_of_le hK (pow_le16 hq.len)
  clear hK
  go_wp2_with fail
  refine (neighbors_any _ x K n _ (rQ.mono h hb3) hq hK16).mono ?_
  rintro e w4 ⟨rfl, z4⟩
  have s5 := z4.size
  have hb5 := on hb3 z4
  replace b_0 := (z4.cell (p := ⟨w.heap.size, 0, none⟩) (by simp only []; omega)).trans b_0
  replace b_1 := (z4.cell (p := ⟨w.heap.size, 1, none⟩) (by simp only []; omega)).trans b_1
  clear hq
  go_wp2_with fail
  go_ret
  exact ⟨ret_int HE.out.symm, hb5⟩

set_option maxHeartbeats 1000000 in
theorem nearMask_spec (cs : List Value) (x : DQ) (k : Int) (w : World) (h : rQ.rep w cs x) :
    Calls Try.prog 19 #[.agg cs.toArray, .int .i64 k] w fun e w' => e = .returned (.int .i64 (nearMask x k)) ∧ Below w.heap.size w w' := by
  obtain ⟨ub, un, uc, rfl⟩ := rQ_form h
  have hb0 : Below w.heap.size w w := Below.refl _ _
  go_enter Try.func19, Try.ntmps19
  obtain ⟨w1, hw1⟩ : ∃ W, W = w.alloc (.cells #[.int .i64 x.1, .slice ub un uc] 26) := ⟨_, rfl⟩
  have z1 : Below w.heap.size w w1 := by rw [hw1]; exact (Below.refl _ _).alloc (Nat.le_refl _) _
  have s1 : w1.heap.size = w.heap.size + 1 := by rw [hw1]; simp
  have hb1 := on hb0 z1
  have b_0 : w1.cell? ⟨w.heap.size, 0, none⟩ = some (.int .i64 x.1) := by rw [hw1]; exact box_cell (Below.refl _ _) rfl
  have b_1 : w1.cell? ⟨w.heap.size, 1, none⟩ = some (.slice ub un uc) := by rw [hw1]; exact box_cell (Below.refl _ _) rfl
  have raw1_b_0 := b_0
  have raw1_b_1 := b_1
  rw [hw1] at raw1_b_0 raw1_b_1
  go_wp2_with fail
  rw [← hw1]
  clear hw1
  clear raw1_b_0 raw1_b_1
  refine (maskOk_spec _ x k _ (rQ.mono h hb1)).mono ?_
  rintro e w2 ⟨rfl, z2⟩
  have s3 := z2.size
  have hb3 := on hb1 z2
  replace b_0 := (z2.cell (p := ⟨w.heap.size, 0, none⟩) (by simp only []; omega)).trans b_0
  replace b_1 := (z2.cell (p := ⟨w.heap.size, 1, none⟩) (by simp only []; omega)).trans b_1
  by_cases hv : maskOkB x k = true
  case neg =>
    replace hv : maskOkB x k = false := by simpa using hv
    have HE := Lib.hid (nearMask_no hv)
    go_wp2_with fail
    go_ret
    exact ⟨ret_int HE.out.symm, hb3⟩
  obtain ⟨K, rfl, hK⟩ := maskOkB_lt hv
  obtain ⟨n, hq⟩ := QOk.of (maskOkB_valid hv)
  have HE := Lib.hid (nearMask_yes hv)
  have hK16 : K < 16 := Nat.lt_of_lt_of_le hK (pow_le16 hq.len)
  clear hK
  go_wp2_with fail
  refine (l8Near_any _ x K n _ (rQ.mono h hb3) hq hK16).mono ?_
  rintro e w4 ⟨rfl, z4⟩
  have s5 := z4.size
  have hb5 := on hb3 z4
  replace b_0 := (z4.cell (p := ⟨w.heap.size, 0, none⟩) (by simp only []; omega)).trans b_0
  replace b_1 := (z4.cell (p := ⟨w.heap.size, 1, none⟩) (by simp only []; omega)).trans b_1
  clear hq
  go_wp2_with fail
  go_ret
  exact ⟨ret_int HE.out.symm, hb5⟩

set_option maxHeartbeats 1000000 in
theorem isConn_impl (cs : List Value) (x : DQ) (k : Int) (w : World) (h : rQ.rep w cs x) :
    Calls Try.prog 9 #[.agg cs.toArray, .int .i64 k] w fun e w' => e = .returned (.bool (isConn x k)) ∧ Below w.heap.size w w' := by
  obtain ⟨ub, un, uc, rfl⟩ := rQ_form h
  have hb0 : Below w.heap.size w w := Below.refl _ _
  go_enter Try.func9, Try.ntmps9
  obtain ⟨w1, hw1⟩ : ∃ W, W = w.alloc (.cells #[.int .i64 x.1, .slice ub un uc] 26) := ⟨_, rfl⟩
  have z1 : Below w.heap.size w w1 := by rw [hw1]; exact (Below.refl _ _).alloc (Nat.le_refl _) _
  have s1 : w1.heap.size = w.heap.size + 1 := by rw [hw1]; simp
  have hb1 := on hb0 z1
  have b_0 : w1.cell? ⟨w.heap.size, 0, none⟩ = some (.int .i64 x.1) := by rw [hw1]; exact box_cell (Below.refl _ _) rfl
  have b_1 : w1.cell? ⟨w.heap.size, 1, none⟩ = some (.slice ub un uc) := by rw [hw1]; exact box_cell (Below.refl _ _) rfl
  have raw1_b_0 := b_0
  have raw1_b_1 := b_1
  rw [hw1] at raw1_b_0 raw1_b_1
  go_wp2_with fail
  rw [← hw1]
  clear hw1
  clear raw1_b_0 raw1_b_1
  refine (maskOk_impl _ x k _ (rQ.mono h hb1)).mono ?_
  rintro e w2 ⟨rfl, z2⟩
  have s3 := z2.size
  have hb3 := on hb1 z2
  replace b_0 := (z2.cell (p := ⟨w.heap.size, 0, none⟩) (by simp only []; omega)).trans b_0
  replace b_1 := (z2.cell (p := ⟨w.heap.size, 1, none⟩) (by simp only []; omega)).trans b_1
  by_cases hv : maskOkB x k = true
  case neg =>
    replace hv : maskOkB x k = false := by simpa using hv
    have HE := Lib.hid (isConn_no hv)
    go_wp2_with fail
    go_ret
    exact ⟨ret_bool HE.out.symm, hb3⟩
  obtain ⟨K, rfl, hK⟩ := maskOkB_lt hv
  obtain ⟨n, hq⟩ := QOk.of (maskOkB_valid hv)
  have HE := Lib.hid (isConn_yes hv)
  go_wp2_with fail
  refine (connected_any _ x K n _ (rQ.mono h hb3) hq hK).mono ?_
  rintro e w4 ⟨rfl, z4⟩
  have s5 := z4.size
  have hb5 := on hb3 z4
  replace b_0 := (z4.cell (p := ⟨w.heap.size, 0, none⟩) (by simp only []; omega)).trans b_0
  replace b_1 := (z4.cell (p := ⟨w.heap.size, 1, none⟩) (by simp only []; omega)).trans b_1
  clear hq hK
  go_wp2_with fail
  go_ret
  exact ⟨ret_bool (by rw [HE.out]), hb5⟩

set_option maxHeartbeats 1000000 in
theorem isConn_spec (cs : List Value) (x : DQ) (k : Int) (w : World) (h : rQ.rep w cs x) :
    Calls Try.prog 10 #[.agg cs.toArray, .int .i64 k] w fun e w' => e = .returned (.bool (isConn x k)) ∧ Below w.heap.size w w' := by
  obtain ⟨ub, un, uc, rfl⟩ := rQ_form h
  have hb0 : Below w.heap.size w w := Below.refl _ _
  go_enter Try.func10, Try.ntmps10
  obtain ⟨w1, hw1⟩ : ∃ W, W = w.alloc (.cells #[.int .i64 x.1, .slice ub un uc] 26) := ⟨_, rfl⟩
  have z1 : Below w.heap.size w w1 := by rw [hw1]; exact (Below.refl _ _).alloc (Nat.le_refl _) _
  have s1 : w1.heap.size = w.heap.size + 1 := by rw [hw1]; simp
  have hb1 := on hb0 z1
  have b_0 : w1.cell? ⟨w.heap.size, 0, none⟩ = some (.int .i64 x.1) := by rw [hw1]; exact box_cell (Below.refl _ _) rfl
  have b_1 : w1.cell? ⟨w.heap.size, 1, none⟩ = some (.slice ub un uc) := by rw [hw1]; exact box_cell (Below.refl _ _) rfl
  have raw1_b_0 := b_0
  have raw1_b_1 := b_1
  rw [hw1] at raw1_b_0 raw1_b_1
  go_wp2_with fail
  rw [← hw1]
  clear hw1
  clear raw1_b_0 raw1_b_1
  refine (maskOk_spec _ x k _ (rQ.mono h hb1)).mono ?_
  rintro e w2 ⟨rfl, z2⟩
  have s3 := z2.size
  have hb3 := on hb1 z2
  replace b_0 := (z2.cell (p := ⟨w.heap.size, 0, none⟩) (by simp only []; omega)).trans b_0
  replace b_1 := (z2.cell (p := ⟨w.heap.size, 1, none⟩) (by simp only []; omega)).trans b_1
  by_cases hv : maskOkB x k = true
  case neg =>
    replace hv : maskOkB x k = false := by simpa using hv
    have HE := Lib.hid (isConn_no hv)
    go_wp2_with fail
    go_ret
    exact ⟨ret_bool HE.out.symm, hb3⟩
  obtain ⟨K, rfl, hK⟩ := maskOkB_lt hv
  obtain ⟨n, hq⟩ := QOk.of (maskOkB_valid hv)
  have HE := Lib.hid (isConn_yes hv)
  by_cases h0 : K = 0
  case pos =>
    subst h0
    have HE0 := Lib.hid (show isConn x ((0 : Nat) : Int) = false by rw [HE.out]; simp [conn])
    clear hq hK
    go_wp2_with fail
    go_ret
    exact ⟨ret_bool HE0.out.symm, hb3⟩
  have HJ := Lib.hid (show conn x K = joined x K by simp [conn, h0])
  have hpos : 0 < K := by omega
  clear h0
  go_wp2_with fail
  refine (joined_any _ x K n _ (rQ.mono h hb3) hq hK).mono ?_
  rintro e w4 ⟨rfl, z4⟩
  have s5 := z4.size
  have hb5 := on hb3 z4
  replace b_0 := (z4.cell (p := ⟨w.heap.size, 0, none⟩) (by simp only []; omega)).trans b_0
  replace b_1 := (z4.cell (p := ⟨w.heap.size, 1, none⟩) (by simp only []; omega)).trans b_1
  clear hq hK
  go_wp2_with fail
  go_ret
  exact ⟨ret_bool (by rw [HE.out, HJ.out]), hb5⟩

set_option maxHeartbeats 2000000 in
theorem connMasks_impl (cs : List Value) (x : DQ) (w : World) (h : rQ.rep w cs x) :
    Calls Try.prog 15 #[.agg cs.toArray] w fun e w' => ∃ u, e = .returned u ∧ Own oI w.heap.size w'.heap.size w' [u] (connMasks x) ∧ Below w.heap.size w w' := by
  obtain ⟨ub, un, uc, rfl⟩ := rQ_form h
  have hb0 : Below w.heap.size w w := Below.refl _ _
  obtain ⟨M, hM, hM16, hMv, hMc⟩ := fullMask_nat x
  have HV := Lib.hid hMv
  have HC := Lib.hid hMc
  clear hMv hMc
  have hfull := fun W (hW : rQ.rep W [.int .i64 x.1, .slice ub un uc] x) => fullMask_impl _ x W hW
  rw [hM] at hfull
  have HF := Lib.hid hfull
  clear hfull hM
  go_enter Try.func15, Try.ntmps15
  obtain ⟨w1, hw1⟩ : ∃ W, W = w.alloc (.cells #[.int .i64 x.1, .slice ub un uc] 26) := ⟨_, rfl⟩
  have z1 : Below w.heap.size w w1 := by rw [hw1]; exact (Below.refl _ _).alloc (Nat.le_refl _) _
  have s1 : w1.heap.size = w.heap.size + 1 := by rw [hw1]; simp
  have hb1 := on hb0 z1
  have b_0 : w1.cell? ⟨w.heap.size, 0, none⟩ = some (.int .i64 x.1) := by rw [hw1]; exact box_cell (Below.refl _ _) rfl
  have b_1 : w1.cell? ⟨w.heap.size, 1, none⟩ = some (.slice ub un uc) := by rw [hw1]; exact box_cell (Below.refl _ _) rfl
  have raw1_b_0 := b_0
  have raw1_b_1 := b_1
  rw [hw1] at raw1_b_0 raw1_b_1
  obtain ⟨w2, hw2⟩ : ∃ W, W = w1.alloc (.cells #[] 3) := ⟨_, rfl⟩
  have z2 : Below w1.heap.size w1 w2 := by rw [hw2]; exact (Below.refl _ _).alloc (Nat.le_refl _) _
  have s2 : w2.heap.size = w1.heap.size + 1 := by rw [hw2]; simp
  have hb2 := on hb1 z2
  replace b_0 := (z2.cell (p := ⟨w.heap.size, 0, none⟩) (by simp only []; omega)).trans b_0
  replace b_1 := (z2.cell (p := ⟨w.heap.size, 1, none⟩) (by simp only []; omega)).trans b_1
  have ho : ∀ S, Acc 3 O.int w1.heap.size S w2.heap.size w2 (.slice (some ⟨w.heap.size + 1, 0, none⟩) 0 0) [] := fun S => by rw [hw2]; exact Acc.empty (by omega) (by simp; omega)
  go_wp2_with fail
  rw [← hw1]
  rw [← hw2]
  clear hw2 hw1
  clear raw1_b_0 raw1_b_1
  go_loopw [3, 4] (fun v k wr => ∃ j : Nat, j ≤ M ∧ k = .int .i64 ((j : Int) + 1) ∧ Acc 3 O.int w1.heap.size w2.heap.size wr.heap.size wr v (connTo x j) ∧ Turn w1.heap.size (w1.heap.size + 1) w2 wr) (fun _ k _ => 16 - (intOf k).toNat)
  case atStart => exact ⟨0, Nat.zero_le _, rfl, (ho _).wide (Nat.le_refl _) (by omega), turn_refl _ _ _⟩
  case round =>
    obtain ⟨j, hj, rfl, hacc, hdr⟩ := hrel
    have hlc := hdr
    clear ho
    have s3 := hdr.size
    have hb3 := hb2.trans ((hdr.below (by omega)).mono (by omega))
    replace b_0 := (hdr.cell (p := ⟨w.heap.size, 0, none⟩) (by simp only []; omega) (by simp only []; omega)).trans b_0
    replace b_1 := (hdr.cell (p := ⟨w.heap.size, 1, none⟩) (by simp only []; omega) (by simp only []; omega)).trans b_1
    have hlen := connTo_len x j
    go_wp2_with fail
    refine (HF.out _ (rQ.mono h hb3)).mono ?_
    rintro e w7 ⟨rfl, z7⟩
    have s4 := z7.size
    have hb4 := on hb3 z7
    replace b_0 := (z7.cell (p := ⟨w.heap.size, 0, none⟩) (by simp only []; omega)).trans b_0
    replace b_1 := (z7.cell (p := ⟨w.heap.size, 1, none⟩) (by simp only []; omega)).trans b_1
    replace hlc := hlc.trans (turn_below z7 (Nat.le_refl _))
    replace hacc := hacc.below z7 (by omega)
    by_cases hlt : j < M
    · obtain ⟨hv, hM2⟩ := HV.out (by omega)
      obtain ⟨n, hq⟩ := QOk.of hv
      have e1 : ((j : Int) + 1) = ((j + 1 : Nat) : Int) := by omega
      have hcall := fun W (hW : rQ.rep W [.int .i64 x.1, .slice ub un uc] x) => connected_any _ x (j + 1) n W hW hq (by omega)
      rw [conn_joined, ← e1] at hcall
      have HC2 := Lib.hid hcall
      have hj1 : (j : Int) + 1 ≤ (M : Int) := by omega
      clear hcall e1 hq hv hM2
      obtain ⟨t, ht⟩ : ∃ t, t = joined x (j + 1) := ⟨_, rfl⟩
      rw [← ht] at HC2
      go_wp2_with fail
      refine (HC2.out _ (rQ.mono h hb4)).mono ?_
      rintro e w8 ⟨rfl, z8⟩
      have s5 := z8.size
      have hb5 := on hb4 z8
      replace b_0 := (z8.cell (p := ⟨w.heap.size, 0, none⟩) (by simp only []; omega)).trans b_0
      replace b_1 := (z8.cell (p := ⟨w.heap.size, 1, none⟩) (by simp only []; omega)).trans b_1
      replace hlc := hlc.trans (turn_below z8 (Nat.le_refl _))
      replace hacc := hacc.below z8 (by omega)
      cases t with
      | true =>
        have HY := Lib.hid (connTo_yes ht.symm)
        clear ht
        go_wp2_with ((at_builtin; refine wpList_accI _ _ _ _ _ hacc hlc rfl (by omega) (by omega) ⟨by omega, by omega⟩ (by omega) rfl rfl rfl rfl rfl ?_; intro v' w1 hacc' ht' hsz'))
        rw [show ((j : Int) + 1) = ((j + 1 : Nat) : Int) by omega, ← HY.out] at hacc'
        go_roundw
        case rel => exact ⟨j + 1, by omega, by go_num, hacc', ht'⟩
        case measure => simp [intOf]; omega
      | false =>
        rw [← connTo_no ht.symm] at hacc
        have HO := Lib.hid (hacc.wide (hi' := w8.heap.size) (Nat.le_refl _) (by omega))
        clear ht hacc
        go_wp2_with fail
        go_roundw
        case rel => exact ⟨j + 1, by omega, by go_num, HO.out, hlc⟩
        case measure => simp [intOf]; omega
    · obtain rfl : j = M := by omega
      have hj1 : ¬ ((j : Int) + 1 ≤ (j : Int)) := by omega
      obtain ⟨a', n', cap2, rfl⟩ := hacc.form3
      rw [← HC.out] at hacc
      have HO := Lib.hid (hacc.own (B := w.heap.size) (hi' := w7.heap.size) (by omega) (by omega) (by omega))
      clear hacc
      go_wp2_with fail
      go_ret
      exact ⟨_, rfl, HO.out, hb4⟩

set_option maxHeartbeats 2000000 in
theorem connMasks_spec (cs : List Value) (x : DQ) (w : World) (h : rQ.rep w cs x) :
    Calls Try.prog 16 #[.agg cs.toArray] w fun e w' => ∃ u, e = .returned u ∧ Own oI w.heap.size w'.heap.size w' [u] (connMasks x) ∧ Below w.heap.size w w' := by
  obtain ⟨ub, un, uc, rfl⟩ := rQ_form h
  have hb0 : Below w.heap.size w w := Below.refl _ _
  obtain ⟨M, hM, hM16, hMv, hMc⟩ := fullMask_nat x
  have HV := Lib.hid hMv
  have HC := Lib.hid hMc
  clear hMv hMc
  have hfull := fun W (hW : rQ.rep W [.int .i64 x.1, .slice ub un uc] x) => fullMask_spec _ x W hW
  rw [hM] at hfull
  have HF := Lib.hid hfull
  clear hfull hM
  go_enter Try.func16, Try.ntmps16
  obtain ⟨w1, hw1⟩ : ∃ W, W = w.alloc (.cells #[.int .i64 x.1, .slice ub un uc] 26) := ⟨_, rfl⟩
  have z1 : Below w.heap.size w w1 := by rw [hw1]; exact (Below.refl _ _).alloc (Nat.le_refl _) _
  have s1 : w1.heap.size = w.heap.size + 1 := by rw [hw1]; simp
  have hb1 := on hb0 z1
  have b_0 : w1.cell? ⟨w.heap.size, 0, none⟩ = some (.int .i64 x.1) := by rw [hw1]; exact box_cell (Below.refl _ _) rfl
  have b_1 : w1.cell? ⟨w.heap.size, 1, none⟩ = some (.slice ub un uc) := by rw [hw1]; exact box_cell (Below.refl _ _) rfl
  have raw1_b_0 := b_0
  have raw1_b_1 := b_1
  rw [hw1] at raw1_b_0 raw1_b_1
  obtain ⟨w2, hw2⟩ : ∃ W, W = w1.alloc (.cells #[] 3) := ⟨_, rfl⟩
  have z2 : Below w1.heap.size w1 w2 := by rw [hw2]; exact (Below.refl _ _).alloc (Nat.le_refl _) _
  have s2 : w2.heap.size = w1.heap.size + 1 := by rw [hw2]; simp
  have hb2 := on hb1 z2
  replace b_0 := (z2.cell (p := ⟨w.heap.size, 0, none⟩) (by simp only []; omega)).trans b_0
  replace b_1 := (z2.cell (p := ⟨w.heap.size, 1, none⟩) (by simp only []; omega)).trans b_1
  have ho : ∀ S, Acc 3 O.int w1.heap.size S w2.heap.size w2 (.slice (some ⟨w.heap.size + 1, 0, none⟩) 0 0) [] := fun S => by rw [hw2]; exact Acc.empty (by omega) (by simp; omega)
  go_wp2_with fail
  rw [← hw1]
  rw [← hw2]
  clear hw2 hw1
  clear raw1_b_0 raw1_b_1
  refine (HF.out _ (rQ.mono h hb2)).mono ?_
  rintro e w7 ⟨rfl, z7⟩
  have s3 := z7.size
  have hb3 := on hb2 z7
  replace b_0 := (z7.cell (p := ⟨w.heap.size, 0, none⟩) (by simp only []; omega)).trans b_0
  replace b_1 := (z7.cell (p := ⟨w.heap.size, 1, none⟩) (by simp only []; omega)).trans b_1
  replace ho := fun S => (ho S).below z7 (by omega)
  go_wp2_with fail
  go_loopw [3, 5] (fun v k wr => ∃ j : Nat, j ≤ M ∧ k = .int .i64 ((j : Int) + 1) ∧ Acc 3 O.int w1.heap.size w7.heap.size wr.heap.size wr v (connTo x j) ∧ Turn w1.heap.size (w1.heap.size + 1) w7 wr) (fun _ k _ => 16 - (intOf k).toNat)
  case atStart => exact ⟨0, Nat.zero_le _, rfl, (ho _).wide (Nat.le_refl _) (by omega), turn_refl _ _ _⟩
  case round =>
    obtain ⟨j, hj, rfl, hacc, hdr⟩ := hrel
    have hlc := hdr
    clear ho
    have s4 := hdr.size
    have hb4 := hb3.trans ((hdr.below (by omega)).mono (by omega))
    replace b_0 := (hdr.cell (p := ⟨w.heap.size, 0, none⟩) (by simp only []; omega) (by simp only []; omega)).trans b_0
    replace b_1 := (hdr.cell (p := ⟨w.heap.size, 1, none⟩) (by simp only []; omega) (by simp only []; omega)).trans b_1
    have hlen := connTo_len x j
    by_cases hlt : j < M
    · obtain ⟨hv, hM2⟩ := HV.out (by omega)
      obtain ⟨n, hq⟩ := QOk.of hv
      have e1 : ((j : Int) + 1) = ((j + 1 : Nat) : Int) := by omega
      have hcall := fun W (hW : rQ.rep W [.int .i64 x.1, .slice ub un uc] x) => joined_any _ x (j + 1) n W hW hq (by omega)
      rw [← e1] at hcall
      have HC2 := Lib.hid hcall
      have hj1 : (j : Int) + 1 ≤ (M : Int) := by omega
      clear hcall e1 hq hv hM2
      obtain ⟨t, ht⟩ : ∃ t, t = joined x (j + 1) := ⟨_, rfl⟩
      rw [← ht] at HC2
      go_wp2_with fail
      refine (HC2.out _ (rQ.mono h hb4)).mono ?_
      rintro e w8 ⟨rfl, z8⟩
      have s5 := z8.size
      have hb5 := on hb4 z8
      replace b_0 := (z8.cell (p := ⟨w.heap.size, 0, none⟩) (by simp only []; omega)).trans b_0
      replace b_1 := (z8.cell (p := ⟨w.heap.size, 1, none⟩) (by simp only []; omega)).trans b_1
      replace hlc := hlc.trans (turn_below z8 (Nat.le_refl _))
      replace hacc := hacc.below z8 (by omega)
      cases t with
      | true =>
        have HY := Lib.hid (connTo_yes ht.symm)
        clear ht
        go_wp2_with ((at_builtin; refine wpList_accI _ _ _ _ _ hacc hlc rfl (by omega) (by omega) ⟨by omega, by omega⟩ (by omega) rfl rfl rfl rfl rfl ?_; intro v' w1 hacc' ht' hsz'))
        rw [show ((j : Int) + 1) = ((j + 1 : Nat) : Int) by omega, ← HY.out] at hacc'
        go_roundw
        case rel => exact ⟨j + 1, by omega, by go_num, hacc', ht'⟩
        case measure => simp [intOf]; omega
      | false =>
        rw [← connTo_no ht.symm] at hacc
        have HO := Lib.hid (hacc.wide (hi' := w8.heap.size) (Nat.le_refl _) (by omega))
        clear ht hacc
        go_wp2_with fail
        go_roundw
        case rel => exact ⟨j + 1, by omega, by go_num, HO.out, hlc⟩
        case measure => simp [intOf]; omega
    · obtain rfl : j = M := by omega
      have hj1 : ¬ ((j : Int) + 1 ≤ (j : Int)) := by omega
      obtain ⟨a', n', cap2, rfl⟩ := hacc.form3
      rw [← HC.out] at hacc
      have HO := Lib.hid (hacc.own (B := w.heap.size) (hi' := wr.heap.size) (by omega) (by omega) (by omega))
      clear hacc
      go_wp2_with fail
      go_ret
      exact ⟨_, rfl, HO.out, hb4⟩

end Go.Proofs.Ytpgfkjcekhifiaa

/- Contracts: splits of connected masks, and join trees. -/
namespace Go.Proofs.Ytpgfkjcekhifiaa
open Go.RowKit
set_option linter.unusedVariables false
set_option linter.unusedSimpArgs false
set_option synthInstance.maxSize 2000
set_option synthInstance.maxHeartbeats 400000

theorem andnot_int : ∀ K, K < 16 → ∀ x, x < 16 → x &&& K = x → bits .andNot .i64 ((K : Nat) : Int) ((x : Nat) : Int) = ((K - x : Nat) : Int) := by decide +kernel
/-- JoinSplits. -/
def joinSplits (q : DQ) (k : Int) : List Int := if isConn q k then splitsTo q k.toNat (k.toNat - 1) else []
/-- CountJoinTrees. -/
def treesI (q : DQ) (k : Int) : Int := if isConn q k then ((treesN q k.toNat : Nat) : Int) else 0
theorem joinSplits_no {q : DQ} {k : Int} (h : isConn q k = false) : joinSplits q k = [] := by simp [joinSplits, h]
theorem joinSplits_yes {q : DQ} {K : Nat} (h : isConn q (K : Int) = true) : joinSplits q (K : Int) = splitsTo q K (K - 1) := by simp [joinSplits, h]
theorem isConn_facts {q : DQ} {k : Int} (h : isConn q k = true) : ∃ K n : Nat, k = K ∧ QOk q n ∧ K < 2 ^ q.2.length ∧ K < 16 ∧ 1 ≤ K ∧ conn q K = true ∧ maskOkB q k = true := by
  simp only [isConn, Bool.and_eq_true] at h
  obtain ⟨K, rfl, hK⟩ := maskOkB_lt h.1
  obtain ⟨n, hq⟩ := QOk.of (maskOkB_valid h.1)
  have h1 : conn q K = true := by simpa using h.2
  have h2 : K ≠ 0 := by intro e; subst e; simp [conn] at h1
  exact ⟨K, n, rfl, hq, hK, Nat.lt_of_lt_of_le hK (pow_le16 hq.len), by omega, h1, h.1⟩
theorem joinSplits_len (q : DQ) (k : Int) : (joinSplits q k).length ≤ 15 := by
  by_cases h : isConn q k = true
  · obtain ⟨K, n, rfl, _, _, h3, _⟩ := isConn_facts h
    rw [joinSplits_yes h]; have := splitsTo_len q K (K - 1); omega
  · rw [joinSplits_no (by simpa using h)]; simp
theorem joinSplits_cnt (q : DQ) (k : Int) : cnt_I (joinSplits q k) ≤ 15 := joinSplits_len q k
theorem conn_pos {q : DQ} {m : Nat} (h : 1 ≤ m) : conn q m = joined q m := by
  have : m ≠ 0 := by omega
  simp [conn, this]
theorem isConn_part {q : DQ} {K y : Nat} (h : maskOkB q (K : Int) = true) (h1 : 1 ≤ y) (h2 : y ≤ K) (h3 : joined q y = true) : isConn q (y : Int) = true := by
  simp only [isConn, Bool.and_eq_true, maskOkB, betw, decide_eq_true_eq] at h ⊢
  refine ⟨⟨h.1, by omega⟩, ?_⟩
  rw [Int.toNat_natCast, conn_pos h1]; exact h3
theorem treesI_nat {q : DQ} {K : Nat} (h : isConn q (K : Int) = true) : treesI q (K : Int) = ((treesN q K : Nat) : Int) := by simp [treesI, h]
theorem treesI_no {q : DQ} {k : Int} (h : isConn q k = false) : treesI q k = 0 := by simp [treesI, h]

set_option maxHeartbeats 4000000 in
theorem joinSplits_impl (cs : List Value) (x : DQ) (k : Int) (w : World) (h : rQ.rep w cs x) :
    Calls Try.prog 6 #[.agg cs.toArray, .int .i64 k] w fun e w' => ∃ u, e = .returned u ∧ Own oI w.heap.size w'.heap.size w' [u] (joinSplits x k) ∧ Below w.heap.size w w' := by
  obtain ⟨ub, un, uc, rfl⟩ := rQ_form h
  have hb0 : Below w.heap.size w w := Below.refl _ _
  go_enter Try.func6, Try.ntmps6
  obtain ⟨w1, hw1⟩ : ∃ W, W = w.alloc (.cells #[.int .i64 x.1, .slice ub un uc] 26) := ⟨_, rfl⟩
  have z1 : Below w.heap.size w w1 := by rw [hw1]; exact (Below.refl _ _).alloc (Nat.le_refl _) _
  have s1 : w1.heap.size = w.heap.size + 1 := by rw [hw1]; simp
  have hb1 := on hb0 z1
  have b_0 : w1.cell? ⟨w.heap.size, 0, none⟩ = some (.int .i64 x.1) := by rw [hw1]; exact box_cell (Below.refl _ _) rfl
  have b_1 : w1.cell? ⟨w.heap.size, 1, none⟩ = some (.slice ub un uc) := by rw [hw1]; exact box_cell (Below.refl _ _) rfl
  have raw1_b_0 := b_0
  have raw1_b_1 := b_1
  rw [hw1] at raw1_b_0 raw1_b_1
  go_wp2_with fail
  rw [← hw1]
  clear hw1
  clear raw1_b_0 raw1_b_1
  refine (isConn_impl _ x k _ (rQ.mono h hb1)).mono ?_
  rintro e w2 ⟨rfl, z2⟩
  have s3 := z2.size
  have hb3 := on hb1 z2
  replace b_0 := (z2.cell (p := ⟨w.heap.size, 0, none⟩) (by simp only []; omega)).trans b_0
  replace b_1 := (z2.cell (p := ⟨w.heap.size, 1, none⟩) (by simp only []; omega)).trans b_1
  by_cases hv : isConn x k = true
  case neg =>
    replace hv : isConn x k = false := by simpa using hv
    have HE := Lib.hid (joinSplits_no hv)
    go_wp2_with fail
    go_ret
    exact ⟨_, rfl, by rw [HE.out]; exact (OwnInts.nil _ _).own, hb3⟩
  obtain ⟨K, n, rfl, hq, hK, hK16, hK1, hcn, hok⟩ := isConn_facts hv
  have HE := Lib.hid (joinSplits_yes hv)
  have HQ := Lib.hid hq
  have HK := Lib.hid hK
  clear hq hK hcn hok
  obtain ⟨w4, hw4⟩ : ∃ W, W = w2.alloc (.cells #[] 3) := ⟨_, rfl⟩
  have z4 : Below w2.heap.size w2 w4 := by rw [hw4]; exact (Below.refl _ _).alloc (Nat.le_refl _) _
  have s4 : w4.heap.size = w2.heap.size + 1 := by rw [hw4]; simp
  have hb4 := on hb3 z4
  replace b_0 := (z4.cell (p := ⟨w.heap.size, 0, none⟩) (by simp only []; omega)).trans b_0
  replace b_1 := (z4.cell (p := ⟨w.heap.size, 1, none⟩) (by simp only []; omega)).trans b_1
  have ho : ∀ S, Acc 3 O.int w2.heap.size S w4.heap.size w4 (.slice (some ⟨w2.heap.size, 0, none⟩) 0 0) [] := fun S => by rw [hw4]; exact Acc.empty (by omega) (by first | (simp; done) | (simp; omega))
  go_wp2_with fail
  rw [← hw4]
  clear hw4
  clear hv
  go_loopw [5, 6] (fun v k wr => ∃ j : Nat, j + 1 ≤ K ∧ k = .int .i64 ((j : Int) + 1) ∧ Acc 3 O.int w2.heap.size w4.heap.size wr.heap.size wr v (splitsTo x K j) ∧ Turn w2.heap.size (w2.heap.size + 1) w4 wr) (fun _ k _ => 16 - (intOf k).toNat)
  case atStart => exact ⟨0, by omega, rfl, (ho _).wide (Nat.le_refl _) (by omega), turn_refl _ _ _⟩
  case round =>
    obtain ⟨j, hj, rfl, hacc, hdr⟩ := hrel
    have hlc := hdr
    clear ho
    have s5 := hdr.size
    have hb5 := hb4.trans ((hdr.below (by omega)).mono (by omega))
    replace b_0 := (hdr.cell (p := ⟨w.heap.size, 0, none⟩) (by simp only []; omega) (by simp only []; omega)).trans b_0
    replace b_1 := (hdr.cell (p := ⟨w.heap.size, 1, none⟩) (by simp only []; omega) (by simp only []; omega)).trans b_1
    have hlen := splitsTo_len x K j
    by_cases hlt : j + 1 < K
    · have hj1 : (j : Int) + 1 < (K : Int) := by omega
      have hba := bits_and_nat (j + 1) K (by omega) (by omega)
      rw [show ((j + 1 : Nat) : Int) = (j : Int) + 1 by omega] at hba
      obtain ⟨P, hP⟩ : ∃ P, P = (j + 1) &&& K := ⟨_, rfl⟩
      rw [← hP] at hba
      by_cases hp : P = j + 1
      case neg =>
        have hne : ((P : Int) == (j : Int) + 1) = false := by rw [beq_eq_false_iff_ne]; omega
        rw [← splitsTo_no (show splitB x K (j + 1) = false by rw [splitB, ← hP, decide_eq_false hp]; rfl)] at hacc
        have HO := Lib.hid (hacc.wide (hi' := wr.heap.size) (Nat.le_refl _) (by omega))
        clear hacc hP hp
        go_wp2_with fail
        go_roundw
        case rel => exact ⟨j + 1, by omega, by go_num, HO.out, hlc⟩
        case measure => simp [intOf]; omega
      have hpp : (j + 1) &&& K = j + 1 := by rw [← hP]; exact hp
      have hne : ((P : Int) == (j : Int) + 1) = true := by rw [beq_iff_eq]; omega
      obtain ⟨R, hR⟩ : ∃ R, R = K - (j + 1) := ⟨_, rfl⟩
      have hR1 : 1 ≤ R ∧ R < K := by omega
      obtain ⟨hR1, hR2⟩ := hR1
      have hdf := andnot_int K hK16 (j + 1) (by omega) hpp
      rw [show ((j + 1 : Nat) : Int) = (j : Int) + 1 by omega, ← hR] at hdf
      have hc1 := fun W (hW : rQ.rep W [.int .i64 x.1, .slice ub un uc] x) => connected_any _ x (j + 1) n W hW HQ.out (by have := HK.out; omega)
      have hc2 := fun W (hW : rQ.rep W [.int .i64 x.1, .slice ub un uc] x) => connected_any _ x R n W hW HQ.out (by have := HK.out; omega)
      rw [conn_pos (show 1 ≤ j + 1 by omega), show ((j + 1 : Nat) : Int) = (j : Int) + 1 by omega] at hc1
      rw [conn_pos (show 1 ≤ R by omega)] at hc2
      obtain ⟨t1, ht1⟩ : ∃ t, t = joined x (j + 1) := ⟨_, rfl⟩
      obtain ⟨t2, ht2⟩ : ∃ t, t = joined x R := ⟨_, rfl⟩
      rw [← ht1] at hc1
      rw [← ht2] at hc2
      have HC1 := Lib.hid hc1
      have HC2 := Lib.hid hc2
      have HS := Lib.hid (show splitB x K (j + 1) = (t1 && t2) by rw [ht1, ht2, hR]; rw [splitB, hpp, decide_eq_true rfl, Bool.true_and])
      clear hc1 hc2 ht1 ht2 hR hpp hp hP
      go_wp2_with fail
      refine (HC1.out _ (rQ.mono h hb5)).mono ?_
      rintro e w8 ⟨rfl, z8⟩
      have s6 := z8.size
      have hb6 := on hb5 z8
      replace b_0 := (z8.cell (p := ⟨w.heap.size, 0, none⟩) (by simp only []; omega)).trans b_0
      replace b_1 := (z8.cell (p := ⟨w.heap.size, 1, none⟩) (by simp only []; omega)).trans b_1
      replace hlc := hlc.trans (turn_below z8 (Nat.le_refl _))
      replace hacc := hacc.below z8 (by omega)
      cases t1 with
      | false =>
        rw [← splitsTo_no (show splitB x K (j + 1) = false by rw [HS.out]; rfl)] at hacc
        have HO := Lib.hid (hacc.wide (hi' := w8.heap.size) (Nat.le_refl _) (by omega))
        clear hacc
        go_wp2_with fail
        go_roundw
        case rel => exact ⟨j + 1, by omega, by go_num, HO.out, hlc⟩
        case measure => simp [intOf]; omega
      | true =>
        go_wp2_with fail
        refine (HC2.out _ (rQ.mono h hb6)).mono ?_
        rintro e w7 ⟨rfl, z7⟩
        have s7 := z7.size
        have hb7 := on hb6 z7
        replace b_0 := (z7.cell (p := ⟨w.heap.size, 0, none⟩) (by simp only []; omega)).trans b_0
        replace b_1 := (z7.cell (p := ⟨w.heap.size, 1, none⟩) (by simp only []; omega)).trans b_1
        replace hlc := hlc.trans (turn_below z7 (Nat.le_refl _))
        replace hacc := hacc.below z7 (by omega)
        cases t2 with
        | false =>
          rw [← splitsTo_no (show splitB x K (j + 1) = false by rw [HS.out]; rfl)] at hacc
          have HO := Lib.hid (hacc.wide (hi' := w7.heap.size) (Nat.le_refl _) (by omega))
          clear hacc
          go_wp2_with fail
          go_roundw
          case rel => exact ⟨j + 1, by omega, by go_num, HO.out, hlc⟩
          case measure => simp [intOf]; omega
        | true =>
          have HY := Lib.hid (splitsTo_yes (show splitB x K (j + 1) = true by rw [HS.out]; rfl))
          go_wp2_with ((at_builtin; refine wpList_accI _ _ _ _ _ hacc hlc rfl (by omega) (by omega) ⟨by omega, by omega⟩ (by omega) rfl rfl rfl rfl rfl ?_; intro v' w1 hacc' ht' hsz'))
          rw [show ((j : Int) + 1) = ((j + 1 : Nat) : Int) by omega, ← HY.out] at hacc'
          go_roundw
          case rel => exact ⟨j + 1, by omega, by go_num, hacc', ht'⟩
          case measure => simp [intOf]; omega
    · obtain rfl : K = j + 1 := by omega
      have hj1 : ¬ ((j : Int) + 1 < ((j + 1 : Nat) : Int)) := by omega
      obtain ⟨a', n', cap2, rfl⟩ := hacc.form3
      rw [← (show joinSplits x ((j + 1 : Nat) : Int) = splitsTo x (j + 1) j from HE.out)] at hacc
      have HO := Lib.hid (hacc.own (B := w.heap.size) (hi' := wr.heap.size) (by omega) (by omega) (by omega))
      clear hacc HE
      go_wp2_with fail
      go_ret
      exact ⟨_, rfl, HO.out, hb5⟩

set_option maxHeartbeats 4000000 in
theorem joinSplits_spec (cs : List Value) (x : DQ) (k : Int) (w : World) (h : rQ.rep w cs x) :
    Calls Try.prog 8 #[.agg cs.toArray, .int .i64 k] w fun e w' => ∃ u, e = .returned u ∧ Own oI w.heap.size w'.heap.size w' [u] (joinSplits x k) ∧ Below w.heap.size w w' := by
  obtain ⟨ub, un, uc, rfl⟩ := rQ_form h
  have hb0 : Below w.heap.size w w := Below.refl _ _
  go_enter Try.func8, Try.ntmps8
  obtain ⟨w1, hw1⟩ : ∃ W, W = w.alloc (.cells #[.int .i64 x.1, .slice ub un uc] 26) := ⟨_, rfl⟩
  have z1 : Below w.heap.size w w1 := by rw [hw1]; exact (Below.refl _ _).alloc (Nat.le_refl _) _
  have s1 : w1.heap.size = w.heap.size + 1 := by rw [hw1]; simp
  have hb1 := on hb0 z1
  have b_0 : w1.cell? ⟨w.heap.size, 0, none⟩ = some (.int .i64 x.1) := by rw [hw1]; exact box_cell (Below.refl _ _) rfl
  have b_1 : w1.cell? ⟨w.heap.size, 1, none⟩ = some (.slice ub un uc) := by rw [hw1]; exact box_cell (Below.refl _ _) rfl
  have raw1_b_0 := b_0
  have raw1_b_1 := b_1
  rw [hw1] at raw1_b_0 raw1_b_1
  obtain ⟨w2, hw2⟩ : ∃ W, W = w1.alloc (.cells #[] 3) := ⟨_, rfl⟩
  have z2 : Below w1.heap.size w1 w2 := by rw [hw2]; exact (Below.refl _ _).alloc (Nat.le_refl _) _
  have s2 : w2.heap.size = w1.heap.size + 1 := by rw [hw2]; simp
  have hb2 := on hb1 z2
  replace b_0 := (z2.cell (p := ⟨w.heap.size, 0, none⟩) (by simp only []; omega)).trans b_0
  replace b_1 := (z2.cell (p := ⟨w.heap.size, 1, none⟩) (by simp only []; omega)).trans b_1
  have ho : ∀ S, Acc 3 O.int w1.heap.size S w2.heap.size w2 (.slice (some ⟨w.heap.size + 1, 0, none⟩) 0 0) [] := fun S => by rw [hw2]; exact Acc.empty (by omega) (by first | (simp; done) | (simp; omega))
  go_wp2_with fail
  rw [← hw1]
  rw [← hw2]
  clear hw2 hw1
  clear raw1_b_0 raw1_b_1
  refine (isConn_spec _ x k _ (rQ.mono h hb2)).mono ?_
  rintro e w3 ⟨rfl, z3⟩
  have s4 := z3.size
  have hb4 := on hb2 z3
  replace b_0 := (z3.cell (p := ⟨w.heap.size, 0, none⟩) (by simp only []; omega)).trans b_0
  replace b_1 := (z3.cell (p := ⟨w.heap.size, 1, none⟩) (by simp only []; omega)).trans b_1
  replace ho := fun S => (ho S).below z3 (by omega)
  by_cases hv : isConn x k = true
  case neg =>
    replace hv : isConn x k = false := by simpa using hv
    have HE := Lib.hid (joinSplits_no hv)
    have hoo := (ho w.heap.size).own (B := w.heap.size) (hi' := w3.heap.size) (by omega) (Nat.le_refl _) (by omega)
    clear ho
    go_wp2_with fail
    go_ret
    exact ⟨_, rfl, by rw [HE.out]; exact hoo, hb4⟩
  obtain ⟨K, n, rfl, hq, hK, hK16, hK1, hcn, hok⟩ := isConn_facts hv
  have HE := Lib.hid (joinSplits_yes hv)
  have HQ := Lib.hid hq
  have HK := Lib.hid hK
  clear hq hK hcn hok
  go_wp2_with fail
  clear hv
  go_loopw [5, 6] (fun v k wr => ∃ j : Nat, j + 1 ≤ K ∧ k = .int .i64 ((j : Int) + 1) ∧ Acc 3 O.int w1.heap.size w3.heap.size wr.heap.size wr v (splitsTo x K j) ∧ Turn w1.heap.size (w1.heap.size + 1) w3 wr) (fun _ k _ => 16 - (intOf k).toNat)
  case atStart => exact ⟨0, by omega, rfl, (ho _).wide (Nat.le_refl _) (by omega), turn_refl _ _ _⟩
  case round =>
    obtain ⟨j, hj, rfl, hacc, hdr⟩ := hrel
    have hlc := hdr
    clear ho
    have s5 := hdr.size
    have hb5 := hb4.trans ((hdr.below (by omega)).mono (by omega))
    replace b_0 := (hdr.cell (p := ⟨w.heap.size, 0, none⟩) (by simp only []; omega) (by simp only []; omega)).trans b_0
    replace b_1 := (hdr.cell (p := ⟨w.heap.size, 1, none⟩) (by simp only []; omega) (by simp only []; omega)).trans b_1
    have hlen := splitsTo_len x K j
    by_cases hlt : j + 1 < K
    · have hj1 : (j : Int) + 1 < (K : Int) := by omega
      have hba := bits_and_nat (j + 1) K (by omega) (by omega)
      rw [show ((j + 1 : Nat) : Int) = (j : Int) + 1 by omega] at hba
      obtain ⟨P, hP⟩ : ∃ P, P = (j + 1) &&& K := ⟨_, rfl⟩
      rw [← hP] at hba
      by_cases hp : P = j + 1
      case neg =>
        have hne : ((P : Int) == (j : Int) + 1) = false := by rw [beq_eq_false_iff_ne]; omega
        rw [← splitsTo_no (show splitB x K (j + 1) = false by rw [splitB, ← hP, decide_eq_false hp]; rfl)] at hacc
        have HO := Lib.hid (hacc.wide (hi' := wr.heap.size) (Nat.le_refl _) (by omega))
        clear hacc hP hp
        go_wp2_with fail
        go_roundw
        case rel => exact ⟨j + 1, by omega, by go_num, HO.out, hlc⟩
        case measure => simp [intOf]; omega
      have hpp : (j + 1) &&& K = j + 1 := by rw [← hP]; exact hp
      have hne : ((P : Int) == (j : Int) + 1) = true := by rw [beq_iff_eq]; omega
      obtain ⟨R, hR⟩ : ∃ R, R = K - (j + 1) := ⟨_, rfl⟩
      have hR1 : 1 ≤ R ∧ R < K := by omega
      obtain ⟨hR1, hR2⟩ := hR1
      have hdf : (K : Int) - ((j : Int) + 1) = (R : Int) := by omega
      have hc1 := fun W (hW : rQ.rep W [.int .i64 x.1, .slice ub un uc] x) => joined_any _ x (j + 1) n W hW HQ.out (by have := HK.out; omega)
      have hc2 := fun W (hW : rQ.rep W [.int .i64 x.1, .slice ub un uc] x) => joined_any _ x R n W hW HQ.out (by have := HK.out; omega)
      rw [show ((j + 1 : Nat) : Int) = (j : Int) + 1 by omega] at hc1
      obtain ⟨t1, ht1⟩ : ∃ t, t = joined x (j + 1) := ⟨_, rfl⟩
      obtain ⟨t2, ht2⟩ : ∃ t, t = joined x R := ⟨_, rfl⟩
      rw [← ht1] at hc1
      rw [← ht2] at hc2
      have HC1 := Lib.hid hc1
      have HC2 := Lib.hid hc2
      have HS := Lib.hid (show splitB x K (j + 1) = (t1 && t2) by rw [ht1, ht2, hR]; rw [splitB, hpp, decide_eq_true rfl, Bool.true_and])
      clear hc1 hc2 ht1 ht2 hR hpp hp hP
      go_wp2_with fail
      refine (HC1.out _ (rQ.mono h hb5)).mono ?_
      rintro e w8 ⟨rfl, z8⟩
      have s6 := z8.size
      have hb6 := on hb5 z8
      replace b_0 := (z8.cell (p := ⟨w.heap.size, 0, none⟩) (by simp only []; omega)).trans b_0
      replace b_1 := (z8.cell (p := ⟨w.heap.size, 1, none⟩) (by simp only []; omega)).trans b_1
      replace hlc := hlc.trans (turn_below z8 (Nat.le_refl _))
      replace hacc := hacc.below z8 (by omega)
      cases t1 with
      | false =>
        rw [← splitsTo_no (show splitB x K (j + 1) = false by rw [HS.out]; rfl)] at hacc
        have HO := Lib.hid (hacc.wide (hi' := w8.heap.size) (Nat.le_refl _) (by omega))
        clear hacc
        go_wp2_with fail
        go_roundw
        case rel => exact ⟨j + 1, by omega, by go_num, HO.out, hlc⟩
        case measure => simp [intOf]; omega
      | true =>
        go_wp2_with fail
        refine (HC2.out _ (rQ.mono h hb6)).mono ?_
        rintro e w7 ⟨rfl, z7⟩
        have s7 := z7.size
        have hb7 := on hb6 z7
        replace b_0 := (z7.cell (p := ⟨w.heap.size, 0, none⟩) (by simp only []; omega)).trans b_0
        replace b_1 := (z7.cell (p := ⟨w.heap.size, 1, none⟩) (by simp only []; omega)).trans b_1
        replace hlc := hlc.trans (turn_below z7 (Nat.le_refl _))
        replace hacc := hacc.below z7 (by omega)
        cases t2 with
        | false =>
          rw [← splitsTo_no (show splitB x K (j + 1) = false by rw [HS.out]; rfl)] at hacc
          have HO := Lib.hid (hacc.wide (hi' := w7.heap.size) (Nat.le_refl _) (by omega))
          clear hacc
          go_wp2_with fail
          go_roundw
          case rel => exact ⟨j + 1, by omega, by go_num, HO.out, hlc⟩
          case measure => simp [intOf]; omega
        | true =>
          have HY := Lib.hid (splitsTo_yes (show splitB x K (j + 1) = true by rw [HS.out]; rfl))
          go_wp2_with ((at_builtin; refine wpList_accI _ _ _ _ _ hacc hlc rfl (by omega) (by omega) ⟨by omega, by omega⟩ (by omega) rfl rfl rfl rfl rfl ?_; intro v' w1 hacc' ht' hsz'))
          rw [show ((j : Int) + 1) = ((j + 1 : Nat) : Int) by omega, ← HY.out] at hacc'
          go_roundw
          case rel => exact ⟨j + 1, by omega, by go_num, hacc', ht'⟩
          case measure => simp [intOf]; omega
    · obtain rfl : K = j + 1 := by omega
      have hj1 : ¬ ((j : Int) + 1 < ((j + 1 : Nat) : Int)) := by omega
      obtain ⟨a', n', cap2, rfl⟩ := hacc.form3
      rw [← (show joinSplits x ((j + 1 : Nat) : Int) = splitsTo x (j + 1) j from HE.out)] at hacc
      have HO := Lib.hid (hacc.own (B := w.heap.size) (hi' := wr.heap.size) (by omega) (by omega) (by omega))
      clear hacc HE
      go_wp2_with fail
      go_ret
      exact ⟨_, rfl, HO.out, hb5⟩

end Go.Proofs.Ytpgfkjcekhifiaa

/- Plain law: the graph of a query's atoms. -/
namespace Go.Proofs.Ytpgfkjcekhifiaa
open Go.RowKit
set_option linter.unusedVariables false
set_option linter.unusedSimpArgs false

/-- The variables of atom i, as bits. -/
def vAt (q : DQ) (i : Nat) : Nat := match q.2[i]? with
  | some a => vbits 0 a.2
  | none => 0
/-- Whether two sets of variables meet. -/
def meet (x y : Nat) : Bool := decide (x &&& y ≠ 0)
/-- Whether two atoms share a variable. -/
def edge (q : DQ) (i j : Nat) : Bool := meet (vAt q i) (vAt q j)
theorem meet_comm (x y : Nat) : meet x y = meet y x := by unfold meet; rw [Nat.and_comm]
/-- One atom's turn in the neighbors. -/
def nbr (b : Bool) (r : Bool) (m p : Nat) : Nat := if !b && r then m ||| p else m
/-- The neighbors, by the six edges that four atoms may have. -/
def nearE (a b c d e f : Bool) (K : Nat) : Nat :=
  nbr (bitAt K 3) ((bitAt K 0 && c) || (bitAt K 1 && e) || (bitAt K 2 && f)) (nbr (bitAt K 2) ((bitAt K 0 && b) || (bitAt K 1 && d) || (bitAt K 3 && f)) (nbr (bitAt K 1) ((bitAt K 0 && a) || (bitAt K 2 && d) || (bitAt K 3 && e)) (nbr (bitAt K 0) ((bitAt K 1 && a) || (bitAt K 2 && b) || (bitAt K 3 && c)) 0 1) 2) 4) 8
theorem meet_or (x y z : Nat) : meet x (y ||| z) = (meet x y || meet x z) := by
  unfold meet
  rw [Nat.and_or_distrib_left, Bool.eq_iff_iff]
  simp only [decide_eq_true_eq, Bool.or_eq_true]
  constructor
  · intro h
    by_cases h1 : x &&& y = 0
    · right; intro h2; exact h (by rw [h1, h2]; rfl)
    · exact .inl h1
  · intro h h1
    have h2 := Nat.or_eq_zero_iff.1 h1
    rcases h with h | h
    · exact h h2.1
    · exact h h2.2
theorem meet_if (x y : Nat) (b : Bool) : meet x (if b = true then y else 0) = (b && meet x y) := by cases b <;> simp [meet]
theorem meet_zero (x : Nat) : meet x 0 = false := by simp [meet]
theorem zero_meet (x : Nat) : meet 0 x = false := by simp [meet]
theorem nearFrom_cons (K B m i : Nat) (a : DA) (t : List DA) : nearFrom K B m i (a :: t) = nearFrom K B (nbr (bitAt K i) (meet (vbits 0 a.2) B) m (2 ^ i)) (i + 1) t := rfl
theorem nearFrom_nil (K B m i : Nat) : nearFrom K B m i [] = m := rfl
theorem qbits_nil (K m i : Nat) : qbits K m i [] = m := rfl
theorem vAt_yes {q : DQ} {i : Nat} {a : DA} (h : q.2[i]? = some a) : vAt q i = vbits 0 a.2 := by simp [vAt, h]
theorem vAt_no {q : DQ} {i : Nat} (h : q.2[i]? = none) : vAt q i = 0 := by simp [vAt, h]
theorem qbits_or (K m i : Nat) (a : DA) (t : List DA) : qbits K m i (a :: t) = qbits K (m ||| (if bitAt K i = true then vbits 0 a.2 else 0)) (i + 1) t := by
  rw [qbits]
  congr 1
  split
  · exact vbits_or _ _
  · simp
theorem near_eq {q : DQ} (h1 : 1 ≤ q.2.length) (h4 : q.2.length ≤ 4) (K : Nat) : near q K = nearE (edge q 0 1) (edge q 0 2) (edge q 0 3) (edge q 1 2) (edge q 1 3) (edge q 2 3) K := by
  obtain ⟨n, xs⟩ := q
  rcases xs with _ | ⟨a, _ | ⟨b, _ | ⟨c, _ | ⟨d, _ | ⟨f, t⟩⟩⟩⟩⟩
  · simp at h1
  · have e0 : vAt (n, [a]) 0 = vbits 0 a.2 := rfl
    have e1 : vAt (n, [a]) 1 = 0 := rfl
    have e2 : vAt (n, [a]) 2 = 0 := rfl
    have e3 : vAt (n, [a]) 3 = 0 := rfl
    simp only [edge, e0, e1, e2, e3, near, bitsOf, qbits_or, qbits_nil, nearFrom_cons, nearFrom_nil, meet_or, meet_if, meet_zero, zero_meet, nearE]
    generalize hb0 : bitAt K 0 = b0
    generalize hb1 : bitAt K 1 = b1
    generalize hb2 : bitAt K 2 = b2
    generalize hb3 : bitAt K 3 = b3
    generalize meet (vbits 0 a.2) (vbits 0 a.2) = maa
    cases b0 <;> cases b1 <;> cases b2 <;> cases b3 <;> simp [nbr]
  · have e0 : vAt (n, [a, b]) 0 = vbits 0 a.2 := rfl
    have e1 : vAt (n, [a, b]) 1 = vbits 0 b.2 := rfl
    have e2 : vAt (n, [a, b]) 2 = 0 := rfl
    have e3 : vAt (n, [a, b]) 3 = 0 := rfl
    simp only [edge, e0, e1, e2, e3, near, bitsOf, qbits_or, qbits_nil, nearFrom_cons, nearFrom_nil, meet_or, meet_if, meet_zero, zero_meet, nearE]
    rw [meet_comm (vbits 0 b.2) (vbits 0 a.2)]
    generalize hb0 : bitAt K 0 = b0
    generalize hb1 : bitAt K 1 = b1
    generalize hb2 : bitAt K 2 = b2
    generalize hb3 : bitAt K 3 = b3
    generalize meet (vbits 0 a.2) (vbits 0 a.2) = maa
    generalize meet (vbits 0 a.2) (vbits 0 b.2) = mab
    generalize meet (vbits 0 b.2) (vbits 0 b.2) = mbb
    cases b0 <;> cases b1 <;> cases b2 <;> cases b3 <;> simp [nbr]
  · have e0 : vAt (n, [a, b, c]) 0 = vbits 0 a.2 := rfl
    have e1 : vAt (n, [a, b, c]) 1 = vbits 0 b.2 := rfl
    have e2 : vAt (n, [a, b, c]) 2 = vbits 0 c.2 := rfl
    have e3 : vAt (n, [a, b, c]) 3 = 0 := rfl
    simp only [edge, e0, e1, e2, e3, near, bitsOf, qbits_or, qbits_nil, nearFrom_cons, nearFrom_nil, meet_or, meet_if, meet_zero, zero_meet, nearE]
    rw [meet_comm (vbits 0 b.2) (vbits 0 a.2)]
    rw [meet_comm (vbits 0 c.2) (vbits 0 a.2)]
    rw [meet_comm (vbits 0 c.2) (vbits 0 b.2)]
    generalize hb0 : bitAt K 0 = b0
    generalize hb1 : bitAt K 1 = b1
    generalize hb2 : bitAt K 2 = b2
    generalize hb3 : bitAt K 3 = b3
    generalize meet (vbits 0 a.2) (vbits 0 a.2) = maa
    generalize meet (vbits 0 a.2) (vbits 0 b.2) = mab
    generalize meet (vbits 0 a.2) (vbits 0 c.2) = mac
    generalize meet (vbits 0 b.2) (vbits 0 b.2) = mbb
    generalize meet (vbits 0 b.2) (vbits 0 c.2) = mbc
    generalize meet (vbits 0 c.2) (vbits 0 c.2) = mcc
    cases b0 <;> cases b1 <;> cases b2 <;> cases b3 <;> simp [nbr]
  · have e0 : vAt (n, [a, b, c, d]) 0 = vbits 0 a.2 := rfl
    have e1 : vAt (n, [a, b, c, d]) 1 = vbits 0 b.2 := rfl
    have e2 : vAt (n, [a, b, c, d]) 2 = vbits 0 c.2 := rfl
    have e3 : vAt (n, [a, b, c, d]) 3 = vbits 0 d.2 := rfl
    simp only [edge, e0, e1, e2, e3, near, bitsOf, qbits_or, qbits_nil, nearFrom_cons, nearFrom_nil, meet_or, meet_if, meet_zero, zero_meet, nearE]
    rw [meet_comm (vbits 0 b.2) (vbits 0 a.2)]
    rw [meet_comm (vbits 0 c.2) (vbits 0 a.2)]
    rw [meet_comm (vbits 0 d.2) (vbits 0 a.2)]
    rw [meet_comm (vbits 0 c.2) (vbits 0 b.2)]
    rw [meet_comm (vbits 0 d.2) (vbits 0 b.2)]
    rw [meet_comm (vbits 0 d.2) (vbits 0 c.2)]
    generalize hb0 : bitAt K 0 = b0
    generalize hb1 : bitAt K 1 = b1
    generalize hb2 : bitAt K 2 = b2
    generalize hb3 : bitAt K 3 = b3
    generalize meet (vbits 0 a.2) (vbits 0 a.2) = maa
    generalize meet (vbits 0 a.2) (vbits 0 b.2) = mab
    generalize meet (vbits 0 a.2) (vbits 0 c.2) = mac
    generalize meet (vbits 0 a.2) (vbits 0 d.2) = mad
    generalize meet (vbits 0 b.2) (vbits 0 b.2) = mbb
    generalize meet (vbits 0 b.2) (vbits 0 c.2) = mbc
    generalize meet (vbits 0 b.2) (vbits 0 d.2) = mbd
    generalize meet (vbits 0 c.2) (vbits 0 c.2) = mcc
    generalize meet (vbits 0 c.2) (vbits 0 d.2) = mcd
    generalize meet (vbits 0 d.2) (vbits 0 d.2) = mdd
    cases b0 <;> cases b1 <;> cases b2 <;> cases b3 <;> simp [nbr]
  · simp at h4

def iterE (a b c d e f : Bool) (K : Nat) : Nat → Nat → Nat
  | 0, g => g
  | k + 1, g => iterE a b c d e f K k (g ||| (nearE a b c d e f g &&& K))
def joinE (a b c d e f : Bool) (n K : Nat) : Bool := iterE a b c d e f K n (lowB K) == K
theorem iter_eq {q : DQ} (h1 : 1 ≤ q.2.length) (h4 : q.2.length ≤ 4) (K : Nat) : ∀ k g, iterM q K k g = iterE (edge q 0 1) (edge q 0 2) (edge q 0 3) (edge q 1 2) (edge q 1 3) (edge q 2 3) K k g
  | 0, g => rfl
  | k + 1, g => by rw [iterM, iterE, stepM, near_eq h1 h4]; exact iter_eq h1 h4 K k _
theorem join_eq {q : DQ} (h1 : 1 ≤ q.2.length) (h4 : q.2.length ≤ 4) (K : Nat) : joined q K = joinE (edge q 0 1) (edge q 0 2) (edge q 0 3) (edge q 1 2) (edge q 1 3) (edge q 2 3) q.2.length K := by
  rw [joined, joinE, iter_eq h1 h4, Bool.eq_iff_iff]; simp
def allB (f : Bool → Bool) : Bool := f false && f true
theorem allB_of {f : Bool → Bool} (h : allB f = true) (b : Bool) : f b = true := by
  simp only [allB, Bool.and_eq_true] at h
  cases b
  · exact h.1
  · exact h.2
def allN (n : Nat) (f : Nat → Bool) : Bool := (List.range n).all f
theorem allN_of {n : Nat} {f : Nat → Bool} (h : allN n f = true) (k : Nat) (hk : k < n) : f k = true := by
  simp only [allN, List.all_eq_true, List.mem_range] at h
  exact h k hk
def chk1 : Bool := allB fun a => allB fun b => allB fun c => allB fun d => allB fun e => allB fun f => allN 5 fun n => allN 16 fun K => !(Nat.blt K (2 ^ n)) || !(joinE a b c d e f n K) || allN 16 fun x => !((x &&& K) == x) || x == 0 || x == K || !((nearE a b c d e f x &&& (K - x)) == 0)
theorem chk1_ok : chk1 = true := by decide +kernel
def chk2 : Bool := allB fun a => allB fun b => allB fun c => allB fun d => allB fun e => allB fun f => allN 5 fun n => allN 16 fun K => !(Nat.blt K (2 ^ n)) || K == 0 || !(joinE a b c d e f n K) || allN n fun x => !(bitAt (nearE a b c d e f K) x) || joinE a b c d e f n (K ||| 2 ^ x)
theorem chk2_ok : chk2 = true := by decide +kernel
def chk3 : Bool := allB fun a => allB fun b => allB fun c => allB fun d => allB fun e => allB fun f => allN 5 fun n => allN 16 fun K => !(Nat.blt K (2 ^ n)) || (K &&& (K - 1)) == 0 || !(joinE a b c d e f n K) || (List.range 16).any fun x => !(x == 0) && Nat.blt x K && (x &&& K) == x && joinE a b c d e f n x && joinE a b c d e f n (K - x)
theorem chk3_ok : chk3 = true := by decide +kernel

end Go.Proofs.Ytpgfkjcekhifiaa

/- Plain law: splits, neighbors and connected masks. -/
namespace Go.Proofs.Ytpgfkjcekhifiaa
open Go.RowKit
set_option linter.unusedVariables false
set_option linter.unusedSimpArgs false

theorem bits_eq {q : DQ} (h4 : q.2.length ≤ 4) (K : Nat) : bitsOf q K = (((0 ||| (if bitAt K 0 = true then vAt q 0 else 0)) ||| (if bitAt K 1 = true then vAt q 1 else 0)) ||| (if bitAt K 2 = true then vAt q 2 else 0)) ||| (if bitAt K 3 = true then vAt q 3 else 0) := by
  obtain ⟨n, xs⟩ := q
  rcases xs with _ | ⟨a, _ | ⟨b, _ | ⟨c, _ | ⟨d, _ | ⟨f, t⟩⟩⟩⟩⟩
  · simp [bitsOf, qbits, vAt]
  · simp [bitsOf, qbits_or, qbits_nil, vAt]
  · simp [bitsOf, qbits_or, qbits_nil, vAt]
  · simp [bitsOf, qbits_or, qbits_nil, vAt]
  · simp [bitsOf, qbits_or, qbits_nil, vAt]
  · simp at h4
def crossE (a b c d e f : Bool) (x y : Nat) : Bool :=
  (bitAt x 0 && (bitAt y 1 && a)) || (bitAt x 0 && (bitAt y 2 && b)) || (bitAt x 0 && (bitAt y 3 && c)) || (bitAt x 1 && (bitAt y 2 && d)) || (bitAt x 1 && (bitAt y 3 && e)) || (bitAt x 2 && (bitAt y 3 && f)) || (bitAt x 1 && (bitAt y 0 && a)) || (bitAt x 2 && (bitAt y 0 && b)) || (bitAt x 3 && (bitAt y 0 && c)) || (bitAt x 2 && (bitAt y 1 && d)) || (bitAt x 3 && (bitAt y 1 && e)) || (bitAt x 3 && (bitAt y 2 && f))
def chk4 : Bool := allB fun a => allB fun b => allB fun c => allB fun d => allB fun e => allB fun f => allN 5 fun n => allN 16 fun K => !(Nat.blt K (2 ^ n)) || !(joinE a b c d e f n K) || allN 16 fun x => !((x &&& K) == x) || x == 0 || x == K || crossE a b c d e f x (K - x)
theorem chk4_ok : chk4 = true := by decide +kernel
theorem meet_sel {q : DQ} (h4 : q.2.length ≤ 4) {i j : Nat} (hi : i < 4) (hj : j < 4) {x y : Nat} (hx : bitAt x i = true) (hy : bitAt y j = true) (he : edge q i j = true) : meet (bitsOf q x) (bitsOf q y) = true := by
  have sub : ∀ (K k : Nat), k < 4 → bitAt K k = true → ∀ z, meet z (vAt q k) = true → meet z (bitsOf q K) = true := by
    intro K k hk hb z hz
    rw [bits_eq h4]
    simp only [meet_or, meet_if, meet_zero, Bool.or_eq_true, Bool.and_eq_true]
    rcases (by omega : k = 0 ∨ k = 1 ∨ k = 2 ∨ k = 3) with rfl | rfl | rfl | rfl <;> simp [hb, hz]
  refine sub y j hj hy _ ?_
  rw [meet_comm]
  refine sub x i hi hx _ ?_
  rw [meet_comm]
  exact he
theorem edge_comm (q : DQ) (i j : Nat) : edge q i j = edge q j i := meet_comm _ _
theorem cross_meet {q : DQ} (h4 : q.2.length ≤ 4) {x y : Nat} (h : crossE (edge q 0 1) (edge q 0 2) (edge q 0 3) (edge q 1 2) (edge q 1 3) (edge q 2 3) x y = true) : meet (bitsOf q x) (bitsOf q y) = true := by
  simp only [crossE, Bool.or_eq_true, Bool.and_eq_true] at h
  rcases h with ((((((((((h | h) | h) | h) | h) | h) | h) | h) | h) | h) | h) | h
  · exact meet_sel h4 (i := 0) (j := 1) (by omega) (by omega) h.1 h.2.1 h.2.2
  · exact meet_sel h4 (i := 0) (j := 2) (by omega) (by omega) h.1 h.2.1 h.2.2
  · exact meet_sel h4 (i := 0) (j := 3) (by omega) (by omega) h.1 h.2.1 h.2.2
  · exact meet_sel h4 (i := 1) (j := 2) (by omega) (by omega) h.1 h.2.1 h.2.2
  · exact meet_sel h4 (i := 1) (j := 3) (by omega) (by omega) h.1 h.2.1 h.2.2
  · exact meet_sel h4 (i := 2) (j := 3) (by omega) (by omega) h.1 h.2.1 h.2.2
  · exact meet_sel h4 (i := 1) (j := 0) (by omega) (by omega) h.1 h.2.1 ((edge_comm q 1 0).trans h.2.2)
  · exact meet_sel h4 (i := 2) (j := 0) (by omega) (by omega) h.1 h.2.1 ((edge_comm q 2 0).trans h.2.2)
  · exact meet_sel h4 (i := 3) (j := 0) (by omega) (by omega) h.1 h.2.1 ((edge_comm q 3 0).trans h.2.2)
  · exact meet_sel h4 (i := 2) (j := 1) (by omega) (by omega) h.1 h.2.1 ((edge_comm q 2 1).trans h.2.2)
  · exact meet_sel h4 (i := 3) (j := 1) (by omega) (by omega) h.1 h.2.1 ((edge_comm q 3 1).trans h.2.2)
  · exact meet_sel h4 (i := 3) (j := 2) (by omega) (by omega) h.1 h.2.1 ((edge_comm q 3 2).trans h.2.2)
theorem blt_yes {a b : Nat} (h : a < b) : Nat.blt a b = true := by simp [Nat.blt_eq, h]
theorem blt_lt {a b : Nat} (h : Nat.blt a b = true) : a < b := by simpa [Nat.blt_eq] using h
/-- A joined mask's parts meet. -/
theorem part_meet {q : DQ} {n : Nat} (hq : QOk q n) {K x : Nat} (hK : K < 2 ^ q.2.length) (hj : joined q K = true) (h1 : x &&& K = x) (h2 : x ≠ 0) (h3 : x ≠ K) (hx : x < K) : meet (bitsOf q x) (bitsOf q (K - x)) = true := by
  have hK16 := Nat.lt_of_lt_of_le hK (pow_le16 hq.len)
  refine cross_meet hq.len ?_
  rw [join_eq hq.lpos hq.len] at hj
  have c := chk4_ok
  have c := allB_of c (edge q 0 1)
  have c := allB_of c (edge q 0 2)
  have c := allB_of c (edge q 0 3)
  have c := allB_of c (edge q 1 2)
  have c := allB_of c (edge q 1 3)
  have c := allB_of c (edge q 2 3)
  have c := allN_of c q.2.length (by have := hq.len; omega)
  have c := allN_of c K hK16
  have e1 : Nat.blt K (2 ^ q.2.length) = true := blt_yes hK
  simp only [e1, hj, Bool.not_true, Bool.false_or] at c
  have c := allN_of c x (by omega)
  have e2 : ((x &&& K) == x) = true := by simp [h1]
  have e3 : (x == 0) = false := by simp [h2]
  have e4 : (x == K) = false := by simp [h3]
  simp only [e2, e3, e4, Bool.not_true, Bool.false_or] at c
  exact c
theorem meet_vars {q : DQ} {n : Nat} (hq : QOk q n) {x y : Nat} (h : meet (bitsOf q x) (bitsOf q y) = true) : (both (varsOf q x) (varsOf q y)).length ≠ 0 := by
  simp only [meet, decide_eq_true_eq] at h
  obtain ⟨v, hv⟩ := Nat.exists_testBit_of_ne_zero h
  rw [Nat.testBit_and, Bool.and_eq_true] at hv
  have hb := hq.bits_lt x
  have hv4 : v < 4 := by
    rcases Nat.lt_or_ge v 4 with h9 | h9
    · exact h9
    · have h8 := Nat.lt_of_lt_of_le hb (pow_le16 hq.le)
      rw [Nat.testBit_lt_two_pow (Nat.lt_of_lt_of_le h8 (show 2 ^ 4 ≤ 2 ^ v from Nat.pow_le_pow_right (by omega) h9))] at hv
      simp at hv
  have m1 : (v : Int) ∈ varsOf q x := by have := varsOf_has q (K := x) hv4; rw [hv.1] at this; simpa [has] using this
  have m2 : has (varsOf q y) (v : Int) = true := by rw [varsOf_has q hv4, hv.2]
  have := List.length_pos_of_mem (a := (v : Int)) (l := both (varsOf q x) (varsOf q y)) (by simp only [both, List.mem_filter]; exact ⟨m1, m2⟩)
  omega
theorem isConn_open {q : DQ} {k : Int} (h : isConn q k = true) : ∃ K : Nat, k = K ∧ K < 2 ^ q.2.length ∧ K ≠ 0 ∧ K < 16 ∧ validQ q = true ∧ joined q K = true := by
  simp only [isConn, Bool.and_eq_true] at h
  obtain ⟨K, rfl, hK⟩ := maskOkB_lt h.1
  have hv := maskOkB_valid h.1
  obtain ⟨n, hq⟩ := QOk.of hv
  have h2 := h.2
  simp only [conn, Int.toNat_natCast, Bool.and_eq_true, decide_eq_true_eq] at h2
  exact ⟨K, rfl, hK, h2.1, Nat.lt_of_lt_of_le hK (pow_le16 hq.len), hv, h2.2⟩
theorem maskOk_mk {q : DQ} {K : Nat} (hv : validQ q = true) (hK : K < 2 ^ q.2.length) : maskOkB q (K : Int) = true := by
  simp only [maskOkB, hv, betw, Bool.true_and, Bool.and_eq_true, decide_eq_true_eq]; omega
theorem isConn_mk {q : DQ} {K : Nat} (hv : validQ q = true) (hK : K < 2 ^ q.2.length) (h0 : K ≠ 0) (hj : joined q K = true) : isConn q (K : Int) = true := by
  rw [isConn_yes (maskOk_mk hv hK)]; simp [conn, h0, hj]
theorem and_rest' : ∀ K, K < 16 → ∀ x, x < 16 → (!decide (x &&& K = x) || decide ((K - x) &&& K = K - x)) = true := by decide +kernel
/-- What a split is. -/
theorem split_law {q : DQ} {k x : Int} (h : x ∈ joinSplits q k) : ∃ K y : Nat, k = K ∧ x = y ∧ 1 ≤ y ∧ y < K ∧ K < 16 ∧ isConn q x = true ∧ (k - x) ∈ joinSplits q k ∧ (sharedVars q x (k - x)).length ≠ 0 := by
  by_cases hc : isConn q k = true
  · obtain ⟨K, rfl, hK, h0, h16, hv, hj⟩ := isConn_open hc
    obtain ⟨n, hq⟩ := QOk.of hv
    rw [joinSplits_yes hc] at h ⊢
    obtain ⟨y, rfl, h1, h2, h3⟩ := splitsTo_mem h
    have h3' := h3
    simp only [splitB, Bool.and_eq_true, decide_eq_true_eq] at h3
    obtain ⟨s1, s2, s3⟩ := h3
    have hr := and_rest' K h16 y (by omega)
    simp only [s1, decide_true, Bool.not_true, Bool.false_or, decide_eq_true_eq] at hr
    have e : (K : Int) - (y : Int) = ((K - y : Nat) : Int) := by omega
    rw [e]
    refine ⟨K, y, rfl, rfl, h1, by omega, h16, isConn_mk hv (by omega) (by omega) s2, splitsTo_has (by omega) (by omega) ?_, ?_⟩
    · simp only [splitB, Bool.and_eq_true, decide_eq_true_eq]
      exact ⟨hr, s3, by rw [show K - (K - y) = y by omega]; exact s2⟩
    · rw [sharedVars, maskVars_yes (maskOk_mk hv (by omega)), maskVars_yes (maskOk_mk hv (by omega))]
      exact meet_vars hq (part_meet hq hK hj s1 (by omega) (by omega) (by omega))
  · rw [joinSplits_no (by simpa using hc)] at h
    simp at h
/-- A neighbor goes on. -/
theorem near_law {q : DQ} {k a : Int} (hc : isConn q k = true) (h : a ∈ maskAtoms (nearMask q k)) : ∃ K v : Nat, k = K ∧ a = v ∧ K < 16 ∧ v < 4 ∧ isConn q ((K ||| 2 ^ v : Nat) : Int) = true := by
  obtain ⟨K, rfl, hK, h0, h16, hv, hj⟩ := isConn_open hc
  obtain ⟨n, hq⟩ := QOk.of hv
  rw [nearMask_yes (maskOk_mk hv hK)] at h
  have hl := near_lt q K
  have hl16 := Nat.lt_of_lt_of_le hl (pow_le16 hq.len)
  rw [maskAtoms, if_pos (by simp only [betw, Bool.and_eq_true, decide_eq_true_eq]; omega), Int.toNat_natCast] at h
  have key : ∀ m, a ∈ bitsTo (near q K) m → ∃ v : Nat, a = v ∧ v < m ∧ (near q K).testBit v = true := by
    intro m
    induction m with
    | zero => intro h; simp [bitsTo] at h
    | succ m ih =>
      intro h
      simp only [bitsTo, List.mem_append] at h
      rcases h with h | h
      · obtain ⟨v, h1, h2, h3⟩ := ih h; exact ⟨v, h1, by omega, h3⟩
      · split at h
        · rename_i hb; simp only [List.mem_singleton] at h; exact ⟨m, h, by omega, by rw [← bitAt_testBit]; exact hb⟩
        · simp at h
  obtain ⟨v, rfl, hv4, ht⟩ := key 4 h
  have hvl : v < q.2.length := by
    rcases Nat.lt_or_ge v q.2.length with h9 | h9
    · exact h9
    · rw [Nat.testBit_lt_two_pow (Nat.lt_of_lt_of_le hl (Nat.pow_le_pow_right (by omega) h9))] at ht; simp at ht
  refine ⟨K, v, rfl, rfl, h16, hv4, isConn_mk hv (or_lt hK hvl) (fun e => h0 (Nat.or_eq_zero_iff.1 e).1) ?_⟩
  rw [join_eq hq.lpos hq.len] at hj ⊢
  rw [near_eq hq.lpos hq.len, ← bitAt_testBit] at ht
  have c := chk2_ok
  have c := allB_of c (edge q 0 1)
  have c := allB_of c (edge q 0 2)
  have c := allB_of c (edge q 0 3)
  have c := allB_of c (edge q 1 2)
  have c := allB_of c (edge q 1 3)
  have c := allB_of c (edge q 2 3)
  have c := allN_of c q.2.length (by have := hq.len; omega)
  have c := allN_of c K h16
  have e1 : Nat.blt K (2 ^ q.2.length) = true := blt_yes hK
  have e3 : (K == 0) = false := by simp [h0]
  simp only [e1, e3, hj, Bool.not_true, Bool.false_or] at c
  have c := allN_of c v hvl
  simp only [ht, Bool.not_true, Bool.false_or] at c
  exact c
/-- A connected mask of more than one atom has a split. -/
theorem some_split {q : DQ} {k : Int} (hc : isConn q k = true) : ∃ K : Nat, k = K ∧ 0 < K ∧ K < 16 ∧ (K &&& (K - 1) = 0 ∨ 0 < (joinSplits q k).length) := by
  obtain ⟨K, rfl, hK, h0, h16, hv, hj⟩ := isConn_open hc
  obtain ⟨n, hq⟩ := QOk.of hv
  refine ⟨K, rfl, by omega, h16, ?_⟩
  by_cases hs : K &&& (K - 1) = 0
  · exact .inl hs
  right
  rw [joinSplits_yes hc]
  have hj' := hj
  rw [join_eq hq.lpos hq.len] at hj
  have c := chk3_ok
  have c := allB_of c (edge q 0 1)
  have c := allB_of c (edge q 0 2)
  have c := allB_of c (edge q 0 3)
  have c := allB_of c (edge q 1 2)
  have c := allB_of c (edge q 1 3)
  have c := allB_of c (edge q 2 3)
  have c := allN_of c q.2.length (by have := hq.len; omega)
  have c := allN_of c K h16
  have e1 : Nat.blt K (2 ^ q.2.length) = true := blt_yes hK
  have e3 : ((K &&& (K - 1)) == 0) = false := by simp [hs]
  simp only [e1, e3, hj, Bool.not_true, Bool.false_or, List.any_eq_true, List.mem_range, Bool.and_eq_true, Bool.not_eq_true', beq_eq_false_iff_ne, beq_iff_eq] at c
  obtain ⟨x, hx, ⟨⟨⟨⟨c1, c2⟩, c3⟩, c4⟩, c5⟩⟩ := c
  have c2 : x < K := blt_lt c2
  refine List.length_pos_of_mem (a := (x : Int)) (splitsTo_has (by omega) (by omega) ?_)
  simp only [splitB, Bool.and_eq_true, decide_eq_true_eq]
  exact ⟨c3, by rw [join_eq hq.lpos hq.len]; exact c4, by rw [join_eq hq.lpos hq.len]; exact c5⟩
theorem connTo_iff {q : DQ} : ∀ {m : Nat} {x : Int}, x ∈ connTo q m ↔ ∃ y : Nat, x = y ∧ 1 ≤ y ∧ y ≤ m ∧ joined q y = true
  | 0, x => by
    simp only [connTo, List.not_mem_nil, false_iff]
    rintro ⟨y, _, h1, h2, _⟩; omega
  | m + 1, x => by
    simp only [connTo, List.mem_append]
    rw [connTo_iff]
    constructor
    · rintro (⟨y, h1, h2, h3, h4⟩ | h)
      · exact ⟨y, h1, h2, by omega, h4⟩
      · split at h
        · rename_i hb; simp only [List.mem_singleton] at h; exact ⟨m + 1, h, by omega, Nat.le_refl _, hb⟩
        · simp at h
    · rintro ⟨y, h1, h2, h3, h4⟩
      rcases Nat.lt_or_ge m y with h | h
      · obtain rfl : y = m + 1 := by omega
        right; rw [h4]; simp [h1]
      · exact .inl ⟨y, h1, h2, h, h4⟩
/-- The connected masks are those. -/
theorem has_conn (q : DQ) (k : Int) : has (connMasks q) k = isConn q k := by
  rw [Bool.eq_iff_iff, has, decide_eq_true_eq, connMasks]
  constructor
  · intro h
    obtain ⟨y, rfl, h1, h2, h3⟩ := connTo_iff.1 h
    by_cases hv : validQ q = true
    · rw [fullMask_yes hv, Int.toNat_natCast] at h2
      have := Nat.two_pow_pos q.2.length
      exact isConn_mk hv (by omega) (by omega) h3
    · rw [fullMask_no (by simpa using hv)] at h2; simp at h2; omega
  · intro h
    obtain ⟨K, rfl, hK, h0, h16, hv, hj⟩ := isConn_open h
    exact connTo_iff.2 ⟨K, rfl, by omega, by rw [fullMask_yes hv, Int.toNat_natCast]; omega, hj⟩

end Go.Proofs.Ytpgfkjcekhifiaa
